/- QuotaTold: the walk. -/
import Derived.Test.YtapiehddcdnadaaDoorQuG
import Derived.Test.YtapiehddcdnadaaDoorQuO
import Derived.Test.YtapiehddcdnadaaDoorQuB
import Derived.Test.YtapiehddcdnadaaDoorQuI0
import Derived.Deep.RegionHeldLaw
namespace Go.Proofs.YtapiehddcdnadaaDoor
open Go.RowKit
set_option linter.unusedVariables false
set_option linter.unusedSimpArgs false

theorem nm_str (u : Nat) : strOfNums [(97 + (u : Int))] = nmOf u := by
  unfold nmOf
  rw [Int.natCast_add]
  rfl
theorem conv_let {W : World} {g : Nat} {v : Int} (h : Blk W g 5 #[.int .u8 v]) : (convert 39 9 (.slice (some ⟨g, 0, none⟩) 1 1)).run Tryd.prog W = .ok (.string (strOfNums [v])) W :=
  run_convert_bytes_arg (P := Tryd.prog) _ 39 5 Tryd.underlying39 Tryd.underlying5 g 0 1 1 [v] rfl (fun j hj => by
    obtain rfl : j = 0 := by omega
    exact h.cellAt 0 rfl) 9 Tryd.underlying9
theorem QQ.other {W w w' : World} {g : Nat} {q : QS} (h : QQ W g q w) {b : Nat} {t : TypeId} {cs : Array Value} (hB : Blk w b t cs) (h1 : t ≠ 64) (h2 : t ≠ 81) (h3 : t ≠ 83) (h4 : t ≠ 52) (hb : W.heap.size ≤ b) (hG : w.grownBy w' (some b)) : QQ W g q w' := by
  obtain ⟨x, y, z, h⟩ := h
  exact ⟨x, y, z, h.other hB h1 h2 h3 h4 hb hG⟩
theorem room_admit (q : QS) (key metric : ByteArray) (known full : Bool) : (admitQ q key metric known full).room = q.room := by
  unfold admitQ
  split <;> rfl
theorem arr_zero : arrU 8 (fun _ => 0) = #[.int .u64 0, .int .u64 0, .int .u64 0, .int .u64 0, .int .u64 0, .int .u64 0, .int .u64 0, .int .u64 0] := by
  simp [arrU, List.range_succ]
theorem arr_no : arrB 8 (fun _ => false) = #[.bool false, .bool false, .bool false, .bool false, .bool false, .bool false, .bool false, .bool false] := by
  simp [arrB, List.range_succ]

set_option maxRecDepth 100000 in
set_option maxHeartbeats 4000000 in
theorem told_walk (p : PolN) (ta : Option Addr) (tn tc : Nat) (own : Bool) (a : Option Addr) (n c : Nat) (xs : List Int) (a2 : Option Addr) (n2 c2 : Nat) (ys : List Int) (w : World) (hT : Tab w) (hx : Ints .u16 w a n xs) (hn : n ≤ 9223372036854775807) (hy : Ints .u8 w a2 n2 ys) (hlc2 : n2 ≤ c2) (hl2 : n2 ≤ 140737488351232) :
    Calls Tryd.prog 5 #[wishV p ta tn tc own a n c, .slice a2 n2 c2] w fun e w' => e = .returned (.bool true) ∧ Below w.heap.size w w' := by
  have HT := Lib.hid hT
  have HX := Lib.hid hx
  have HY := Lib.hid hy
  have hbd := Lib.hid (nI_bd hx)
  have HWO := Lib.hid (fun V hV => wish_own p ta tn tc a n c xs V hV hn)
  clear hT hx hy
  unfold wishV at *
  go_enter Tryd.func5, Tryd.ntmps5
  go_wp2_with fail
  refine (examples_q _ (HT.out.step (balloc (Below.refl _ _) _))).mono ?_
  rintro e w1 ⟨rfl, b1⟩
  have B0 := Blk.step b1 (Blk.new w 27 #[.int .i64 p.slots, .int .i64 p.low, .int .i64 p.high, .int .i64 p.top, .int .i64 p.sketch, .int .i64 p.fine, .int .i64 p.idle, .int .i64 p.window, .int .i64 p.late, .int .i64 p.future, .slice ta tn tc, .bool own, .slice a n c])
  have hb1 := Lib.hid (bstep b1 (balloc (Below.refl w.heap.size w) _))
  have C0 := B0.cell
  have F0 := B0.frozen
  have L0 := B0.lt
  have B0b := B0.put 11 (.bool true)
  have hb2 := Lib.hid (bset hb1.out (p := ⟨w.heap.size, 11, none⟩) (Nat.le_refl _) (.bool true))
  clear b1 B0
  go_upto_region 5 with fail
  clear C0 F0 L0
  generalize (w1.setCell ⟨w.heap.size, 11, none⟩ (.bool true)) = w2 at *
  have C0 := B0b.cell
  have L0 := B0b.lt
  go_wp2_with fail
  refine (HWO.out w2 (HX.out.step hb2.out)).mono ?_
  rintro e w3 ⟨A, c3, rfl, hI, b3⟩
  have HR := Lib.hid (wish_right xs hbd.out)
  have hb3 := Lib.hid (bstep b3 hb2.out)
  clear C0 L0 B0b hb1 hb2 b3 hbd HWO HX
  obtain ⟨P, hP⟩ : ∃ P, P = wishP xs := ⟨_, rfl⟩
  obtain ⟨L, hL⟩ : ∃ L, L = wishT xs := ⟨_, rfl⟩
  rw [← hP, ← hL] at HR
  rw [← hL] at hI
  rw [← hP, ← hL]
  clear hP hL
  unfold polV
  have HI := Lib.hid hI
  have hok := Lib.hid (right_ok HR.out)
  clear hI
  go_upto_region 6 with fail
  have BP := Lib.hid (Blk.new w3 24 #[.int .i64 P.slots, .int .i64 P.low, .int .i64 P.high, .int .i64 P.top, .int .i64 P.sketch, .int .i64 P.fine, .int .i64 P.idle, .int .i64 P.window, .int .i64 P.late, .int .i64 P.future, .slice A L.length c3])
  have HI2 := Lib.hid (HI.out.step (balloc (Below.refl _ _) (.cells #[.int .i64 P.slots, .int .i64 P.low, .int .i64 P.high, .int .i64 P.top, .int .i64 P.sketch, .int .i64 P.fine, .int .i64 P.idle, .int .i64 P.window, .int .i64 P.late, .int .i64 P.future, .slice A L.length c3] 24)))
  have hb4 := Lib.hid (balloc hb3.out (.cells #[.int .i64 P.slots, .int .i64 P.low, .int .i64 P.high, .int .i64 P.top, .int .i64 P.sketch, .int .i64 P.fine, .int .i64 P.idle, .int .i64 P.window, .int .i64 P.late, .int .i64 P.future, .slice A L.length c3] 24))
  have CP := (BP.out).cell
  have LP := (BP.out).lt
  generalize (w3.alloc (.cells #[.int .i64 P.slots, .int .i64 P.low, .int .i64 P.high, .int .i64 P.top, .int .i64 P.sketch, .int .i64 P.fine, .int .i64 P.idle, .int .i64 P.window, .int .i64 P.late, .int .i64 P.future, .slice A L.length c3] 24)) = w4 at *
  generalize w3.heap.size = gp at *
  clear HI hb3
  have HT4 := Lib.hid (HT.out.step hb4.out)
  have hLn : Hid (L.length ≤ 9223372036854775806) := Lib.hid (by have h := HR.out; unfold rightP at h; simp only [Bool.and_eq_true, decide_eq_true_eq] at h; omega)
  have HXV : Hid (∀ V, Below w4.heap.size w4 V → Ints .i64 V A L.length L) := Lib.hid (fun V hV => HI2.out.step hV)
  have HPV : Hid (∀ V, Below w4.heap.size w4 V → Blk V gp 24 #[.int .i64 P.slots, .int .i64 P.low, .int .i64 P.high, .int .i64 P.top, .int .i64 P.sketch, .int .i64 P.fine, .int .i64 P.idle, .int .i64 P.window, .int .i64 P.late, .int .i64 P.future, .slice A L.length c3]) := Lib.hid (fun V hV => Blk.below hV BP.out.lt BP.out)
  have HNEW : Hid (∀ V, Below w4.heap.size w4 V → Calls Tryd.prog 9 #[.agg #[.int .i64 P.slots, .int .i64 P.low, .int .i64 P.high, .int .i64 P.top, .int .i64 P.sketch, .int .i64 P.fine, .int .i64 P.idle, .int .i64 P.window, .int .i64 P.late, .int .i64 P.future, .slice A L.length c3], .int .i64 0] V fun e w' => ∃ g, e = .returned (.tuple #[.pointer (some ⟨g, 0, none⟩), .int .i64 0]) ∧ QQ w4 g (newQ P 0) w') := Lib.hid (fun V hV => new_call w4 P A L.length c3 L 0 V hV (HXV.out V hV) hLn.out HR.out (by omega) (by omega))
  obtain ⟨q0, hq0⟩ : ∃ q0, q0 = newQ P 0 := ⟨_, rfl⟩
  have HK := Lib.hid (newQ_keep hok.out 0)
  have HS0 : Hid (q0.seen = 0 ∧ q0.l = []) := Lib.hid (by rw [hq0]; exact ⟨rfl, rfl⟩)
  rw [← hq0] at HNEW HK
  clear hq0
  go_wp2_with fail
  refine (HNEW.out w4 (Below.refl _ _)).mono ?_
  rintro e w5 ⟨g, rfl, h5⟩
  clear CP LP HNEW
  go_wp2_with fail
  generalize hgr : w5.heap.size = gr at *
  have hgw : w4.heap.size ≤ w5.heap.size := h5.below.size
  have hrm : P.top.toNat = P.top.toNat := rfl
  obtain ⟨k, hk, hk1⟩ : ∃ k : Nat, P.top = (k : Int) ∧ (1 ≤ k ∧ k ≤ 16) := ⟨P.top.toNat, by have := hok.out.tp; omega, by have := hok.out.tp; omega⟩
  have hkr : Hid (q0.room = k) := Lib.hid (by rw [HK.out.2.2.2.2.2, hk]; rfl)
  clear hrm
  have HKP := Lib.hid hk
  clear hk
  go_loopw [10, 11] (fun al i wr => ∃ (j all : Nat) (q : QS) (R : Nat → Nat), j ≤ n2 ∧ j ≤ 100 ∧ all ≤ j ∧ al = .int .u64 all ∧ i = .int .i64 j ∧ QQ w4 g q wr ∧ Keep q0 q ∧ q.seen = all ∧ ToldI k R all q.l ∧ Blk wr gr 49 (arrU 8 R)) (fun _ i _ => n2 - (intOf i).toNat)
  case atStart => exact ⟨0, 0, q0, fun _ => 0, Nat.zero_le _, Nat.zero_le _, Nat.zero_le _, rfl, rfl, h5.step (balloc (Below.refl _ _) _), Keep.refl _, HS0.out.1, by rw [HS0.out.2]; exact ToldI.nil k, by rw [arr_zero]; exact Blk.newAt hgr⟩
  case round =>
    clear h5
    obtain ⟨j, all, q, R, hjn, hj2, hrj, rfl, rfl, hQ, hK, hsn, hI, hB⟩ := hrel
    by_cases hc : j < n2 ∧ j < 100
    · obtain ⟨b, off, rfl, hb, hcell⟩ := HY.out.at_ (by omega)
      have hbelow := hb4.out.trans (hQ.below.mono hb4.out.size)
      have HV : Hid (∀ V, Below w4.heap.size w4 V → V.cell? ⟨b, off + j, none⟩ = some (.int .u8 (ys.getD j 0))) := Lib.hid (fun V hV => ((hb4.out.trans (hV.mono hb4.out.size)).cell (p := ⟨b, off + j, none⟩) hb).trans (hcell j hc.1))
      have hbr : b < wr.heap.size := Nat.lt_of_lt_of_le hb hbelow.size
      have hvw := HY.out.wf (ys.getD j 0) (by rw [List.getD_eq_getElem?_getD, List.getElem?_eq_getElem (by rw [HY.out.len]; exact hc.1)]; exact List.getElem_mem _)
      have hv : 0 ≤ ys.getD j 0 ∧ ys.getD j 0 ≤ 255 := bounds_u8 hvw
      clear hvw hcell
      have c1 : (j : Int) < n2 := by omega
      have c3 : (j : Int) < 100 := by omega
      generalize ys.getD j 0 = v at *
      have dv := HV.out wr hQ.below
      obtain ⟨lu, hu, hu2⟩ : ∃ u : Nat, v % 8 = (u : Int) ∧ u < 8 := ⟨(v % 8).toNat, by omega, by omega⟩
      have hu3 : v.tmod 8 = (lu : Int) := by rw [Int.tmod_eq_emod_of_nonneg hv.1]; exact hu
      have hu4 : IntKind.u8.wrap (97 + (lu : Int)) = 97 + (lu : Int) := by simp [IntKind.wrap, IntKind.bits, IntKind.signed]; omega
      have hu5 : (lu : Int) < 8 := by omega
      obtain ⟨s16, hs, hs2⟩ : ∃ u : Int, v % 16 = u ∧ (0 ≤ u ∧ u ≤ 15) := ⟨_, rfl, by omega⟩
      have hs3 : v.tmod 16 = s16 := by rw [Int.tmod_eq_emod_of_nonneg hv.1]; exact hs
      obtain ⟨q', hq'⟩ : ∃ q', q' = admitQ q (strOfNums [v]) (nmOf lu) false (decide (3 < s16)) := ⟨_, rfl⟩
      obtain ⟨E, hE⟩ : ∃ E, E = admitE q (strOfNums [v]) false (decide (3 < s16)) := ⟨_, rfl⟩
      have CA : Hid (∀ V, QQ w4 g q V → Blk V gr 49 (arrU 8 R) → Calls Tryd.prog 11 #[.pointer (some ⟨g, 0, none⟩), .string (strOfNums [v]), .string (strOfNums [97 + (lu : Int)]), .bool false, .bool (decide (3 < s16))] V fun e w' => e = .returned (.int .i64 E) ∧ QQ w4 g q' w' ∧ Blk w' gr 49 (arrU 8 R)) := Lib.hid (fun V h hb => by
        rw [hq', hE, nm_str]
        refine (q_admit_far HT4.out (strOfNums [v]) (nmOf lu) false (decide (3 < s16)) (by rw [str1_size]; omega) (by rw [nmOf_size]; omega) h).mono ?_
        rintro e w' ⟨rfl, h', hF⟩
        exact ⟨rfl, h', hF.2 _ _ _ hb (by decide) (by decide) (by decide) (by decide)⟩)
      have hrq : q.room = k := by rw [hK.room, hkr.out]
      have hTA := told_admit (q := q) (R := R) (all := all) (by rw [hrq]; exact hI) (by rw [hrq]; omega) (by omega) (strOfNums [v]) lu hu2 false (decide (3 < s16))
      rw [← hq', ← hE, hsn, hrq] at hTA
      have hE3 : E = 0 ∨ E = 10 ∨ E = 4 := by rw [hE]; exact decideQ_cases _ _ _
      have hK' : Keep q0 q' := by rw [hq']; exact hK.admit _ _ _ _
      have hTA' := Lib.hid hTA
      have hE3' := Lib.hid hE3
      have hRl : R lu ≤ all := hI.le lu hu2
      clear hc hq' hE hTA hE3 hrq hI hsn hK
      go_upto_region 14 with fail
      go_cut [12] from 35 to 79 (fun x wx => x = .int .i64 E ∧ QQ w4 g q' wx ∧ Blk wx gr 49 (arrU 8 R))
      case first =>
        have F1 := conv_let ((Blk.new wr 5 #[.int .u8 v]).drew)
        have F2 := conv_let ((Blk.new wr 5 #[.int .u8 (97 + (lu : Int))]).drew)
        have F3 := conv_let (((Blk.new wr 5 #[.int .u8 v]).alloc (.cells #[.int .u8 (97 + (lu : Int))] 5)).drew)
        have F4 := conv_let ((Blk.newAt (w := wr.alloc (.cells #[.int .u8 v] 5)) (g := wr.heap.size + 1) (t := 5) (cs := #[.int .u8 (97 + (lu : Int))]) (by simp)).drew)
        have F5 := conv_let (((Blk.new wr 5 #[.int .u8 (97 + (lu : Int))]).alloc (.cells #[.int .u8 v] 5)).drew)
        have F6 := conv_let ((Blk.newAt (w := wr.alloc (.cells #[.int .u8 (97 + (lu : Int))] 5)) (g := wr.heap.size + 1) (t := 5) (cs := #[.int .u8 v]) (by simp)).drew)
        have HQ := Lib.hid hQ
        have HB := Lib.hid hB
        clear hQ hB hbelow hRl
        go_region_held_law (fun w' => w'.cell? ⟨b, off + j, none⟩ = some (.int .u8 v)) (first | (with_reducible exact HV.out _ h6.below) | exact HV.out _ (HQ.out.step (bdrew (Below.refl _ _))).below | exact HV.out _ (HQ.out.step (bdrew (balloc (Below.refl _ _) _))).below | exact HV.out _ (HQ.out.step (bdrew (balloc (balloc (Below.refl _ _) _) _))).below)
          (first
            | (go_at_call 11; ((refine (CA.out _ (HQ.out.step (bdrew (balloc (balloc (Below.refl _ _) _) _))) ((HB.out.alloc _).alloc _).drew).mono ?_); rintro eA wA ⟨rfl, h6, hB6⟩)))
        all_goals
          go_wp2_with fail
          go_meet
          exact ⟨rfl, h6, hB6⟩
      case rest =>
      clear hQ hbelow hB dv
      obtain ⟨rfl, hQ, hB⟩ := hcut
      rcases hE3'.out with hE | hE | hE
      · subst hE
        obtain ⟨t1, t2⟩ := hTA'.out.1 rfl
        go_wp2_with fail
        exact ⟨⟨j + 1, all, q', R, by omega, by omega, by omega, rfl, by go_num, hQ, hK', t2, t1, hB⟩, by simp [intOf]; omega⟩
      all_goals
        subst hE
        obtain ⟨t1, t2⟩ := hTA'.out.2 (by decide)
        have cR := hB.cellAt lu (arrU_get 8 R lu hu2)
        have fR := hB.frozen lu
        have lR := hB.lt
        have dv := HV.out _ hQ.below
        have hbc : b < wc.heap.size := Nat.lt_of_lt_of_le hb (Nat.le_trans hb4.out.size hQ.below.size)
        have hw1 : IntKind.u64.wrap ((R lu : Int) + 1) = ((R lu + 1 : Nat) : Int) := by simp [IntKind.wrap, IntKind.bits, IntKind.signed]; omega
        have hQ2 := hQ.other hB (by decide) (by decide) (by decide) (by decide) (by omega) (only_set _ gr lu (.int .u64 ((R lu + 1 : Nat) : Int)))
        have hB2 := hB.put lu (.int .u64 ((R lu + 1 : Nat) : Int))
        rw [arrU_set 8 R (upR R lu) lu (R lu + 1) (fun d hd => by
          unfold upR
          split
          · next e => rw [e]
          · rfl)] at hB2
        have HQ2 := Lib.hid hQ2
        have HB2 := Lib.hid hB2
        have HT1 := Lib.hid t1
        have HT2 := Lib.hid t2
        clear hQ hB hQ2 hB2 t1 t2
        generalize R lu = rl at *
        go_wp2_with fail
        exact ⟨⟨j + 1, all + 1, q', upR R lu, by omega, by omega, by omega, by go_num, by go_num, HQ2.out, hK', HT2.out, HT1.out, HB2.out⟩, by simp [intOf]; omega⟩
    · have hend : (¬ (j : Int) < n2) ∨ ((j : Int) < n2 ∧ ¬ (j : Int) < 100) := by omega
      clear hc
      have hrq : q.room = k := by rw [hK.room, hkr.out]
      have hfin : Hid (∀ s, Told q.l s → ToldFin k all R s) := Lib.hid (fun s h => told_fin hI (by omega) h)
      have hRle : Hid (∀ c, c < 8 → R c ≤ 100) := Lib.hid (fun c h => Nat.le_trans (hI.le c h) (by omega))
      obtain ⟨s1, hs1⟩ : ∃ M, strOfNums q.rn = M := ⟨_, rfl⟩
      obtain ⟨s2, hs2⟩ : ∃ M, strOfNums q.rb = M := ⟨_, rfl⟩
      obtain ⟨wn, hwn⟩ : ∃ M, q.win = M := ⟨_, rfl⟩
      obtain ⟨cl, hcl⟩ : ∃ M, q.closed = M := ⟨_, rfl⟩
      have CS : Hid (∀ V, QQ w4 g q V → Calls Tryd.prog 13 #[.pointer (some ⟨g, 0, none⟩)] V fun e w' => ∃ A n c bs s, e = .returned (.agg #[.int .i64 wn, .bool cl, .string s1, .string s2, .int .u64 (all : Nat), .slice A n c]) ∧ Told q.l s ∧ Its w' bs A n c s ∧ Below V.heap.size V w') := Lib.hid (fun V h => by
        refine (q_state h).mono ?_
        rintro e w' ⟨A, n, c, bs, s, rfl, h1, h2, hb⟩
        refine ⟨A, n, c, bs, s, ?_, h1, h2, hb⟩
        unfold stateV
        rw [hwn, hcl, hs1, hs2, hsn])
      clear hs1 hs2 hwn hcl hsn hI hK hrq
      have hal : all ≤ 100 := by omega
      rcases hend with d1 | ⟨d1, d2⟩
      all_goals
        go_wp2_with fail
        refine (CS.out _ hQ).mono ?_
        rintro e w6 ⟨A', m, c', bb, s, rfl, hT, hIt, b6⟩
        have hF := Lib.hid (hfin.out s hT)
        have hm := hIt.len
        have hm16 : m ≤ 16 := by have := hF.out.len; omega
        have hQ6 := hQ.step b6
        have hB6 := Blk.step b6 hB
        have BS := Blk.new w6 43 #[.int .i64 wn, .bool cl, .string s1, .string s2, .int .u64 (all : Nat), .slice A' m c']
        have hQ7 := hQ6.step (balloc (Below.refl _ _) (.cells #[.int .i64 wn, .bool cl, .string s1, .string s2, .int .u64 (all : Nat), .slice A' m c'] 43))
        have hB7 := hB6.alloc (.cells #[.int .i64 wn, .bool cl, .string s1, .string s2, .int .u64 (all : Nat), .slice A' m c'] 43)
        have hI7 := hIt.alloc (.cells #[.int .i64 wn, .bool cl, .string s1, .string s2, .int .u64 (all : Nat), .slice A' m c'] 43)
        clear hQ hB b6 hIt hQ6 hB6 hT hfin
        go_upto_region 19 with fail
        generalize (w6.alloc (.cells #[.int .i64 wn, .bool cl, .string s1, .string s2, .int .u64 (all : Nat), .slice A' m c'] 43)) = w7 at *
        generalize w6.heap.size = gs at *
        generalize hgt : w7.heap.size = gt at *
        have hgs0 : w4.heap.size ≤ gt := by rw [← hgt]; exact hQ7.below.size
        have BS7 := Lib.hid BS
        clear BS
        go_wp2_with fail
        have hgrgt : gr ≠ gt := by have := hB7.lt; omega
        have hgsgt : gs ≠ gt := by have := BS7.out.lt; omega
        go_loopw [15] (fun i wr => ∃ qq : Nat, qq ≤ m ∧ i = .int .i64 qq ∧ QQ w4 g q wr ∧ Blk wr gr 49 (arrU 8 R) ∧ Blk wr gt 50 (arrB 8 (toldB s qq)) ∧ Its wr bb A' m c' s ∧ Blk wr gs 43 #[.int .i64 wn, .bool cl, .string s1, .string s2, .int .u64 (all : Nat), .slice A' m c']) (fun i _ => m - (intOf i).toNat)
        case atStart => exact ⟨0, Nat.zero_le _, rfl, hQ7.step (balloc (Below.refl _ _) _), hB7.alloc _, by
          have e : toldB s 0 = fun _ => false := by funext d; simp [toldB]
          rw [e, arr_no]
          exact Blk.newAt hgt, hI7.alloc _, BS7.out.alloc _⟩
        case round =>
          clear hQ7 hB7 hI7 BS7 hgt
          rename_i wr2 _
          obtain ⟨qq, hqm, rfl, hQ, hR, hB, hIt, hS⟩ := hrel
          have kS4 : _ = some (Value.int .u64 (all : Nat)) := hS.cellAt 4 rfl
          have kS5 : _ = some (Value.slice A' m c') := hS.cellAt 5 rfl
          have lS := hS.lt
          by_cases hq : qq < m
          · obtain ⟨r, rfl, hr0, hr1, hrc, hcell⟩ := hIt.row (by omega)
            obtain ⟨x0, x1, x2⟩ := hcell qq hq
            obtain ⟨cc, hcc, hnm, f1, f2, f3, f4, f5⟩ := hF.out.nm qq (by omega)
            rw [hnm] at x0
            clear hcell
            have hlq := hRle.out cc hcc
            obtain ⟨xm, hxm1⟩ : ∃ x, (s.getD qq default).many = x := ⟨_, rfl⟩
            obtain ⟨xo, hxo1⟩ : ∃ x, (s.getD qq default).over = x := ⟨_, rfl⟩
            rw [hxm1] at x1 f1 f2 f3 f5
            rw [hxo1] at x2 f2 f3 f4
            have hxm0 := Lib.hid hxm1
            have hxo0 := Lib.hid hxo1
            clear hxm1 hxo1
            have fT := hB.frozen cc
            have cT := hB.cellAt cc (arrB_get 8 _ _ hcc)
            have lB := hB.lt
            have hq1 : (qq : Int) < m := by omega
            have hsz : (nmOf cc).size = 1 := nmOf_size cc
            have hb0 : ∀ h, ((nmOf cc)[0]'h).toNat = 97 + cc := fun h => nm_b cc (by omega) h
            have hcc2 : (cc : Int) < 8 := by omega
            have hcw : IntKind.u8.wrap (97 + (cc : Int) - 97) = (cc : Int) := by simp [IntKind.wrap, IntKind.bits, IntKind.signed]; omega
            go_upto_region 26 with fail
            have hnq : (s.getD qq default).name.data.toList = nml cc := by rw [hnm]; rfl
            have hK8 : ∀ d, d < 8 → toldB s (qq + 1) d = if d = cc then true else toldB s qq d := by
              intro d hd
              unfold toldB
              rw [List.take_succ_eq_append_getElem (by omega), List.any_append]
              rw [it_get s qq (by omega)] at hnq
              by_cases e : d = cc
              · subst e; simp [hnq]
              · have : ¬ nml cc = nml d := fun h => e (nm_inj (by omega) (by omega) h).symm
                simp [hnq, e, this]
            have hfar := hIt.far hB (by decide)
            have hG := only_set wr gt cc (.bool true)
            have hQ2 := hQ.other hB (by decide) (by decide) (by decide) (by decide) hgs0 hG
            have hR2 := hR.far (p := ⟨gt, cc, none⟩) hgrgt (.bool true)
            have hS2 := hS.far (p := ⟨gt, cc, none⟩) hgsgt (.bool true)
            have hI2 : Its (wr.setCell ⟨gt, cc, none⟩ (.bool true)) bb (some ⟨r, 0, none⟩) m c' s := ⟨hIt.own.kept hG (.inr (fun e => hfar e.symm))⟩
            have hB2 := hB.put cc (.bool true)
            rw [arrB_set 8 _ (toldB s (qq + 1)) cc true hK8] at hB2
            clear hK8 hnq hfar hG
            go_upto_region 27 with fail
            clear hQ hR hS hIt hB fT cT lB kS4 kS5 lS x0 x1 x2
            generalize (wr.setCell ⟨gt, cc, none⟩ (.bool true)) = w8 at *
            obtain ⟨r', hr', hr0', hr1', hrc', hcell'⟩ := hI2.row (by omega)
            obtain rfl : r = r' := by injection hr' with e; injection e
            obtain ⟨x0, x1, x2⟩ := hcell' qq hq
            have hxm : (s.getD qq default).many = xm := hxm0.out
            have hxo : (s.getD qq default).over = xo := hxo0.out
            rw [hxm] at x1
            rw [hxo] at x2
            clear hcell' hr' hr0' hrc' hxm hxo hxm0 hxo0
            have kS5 : _ = some (Value.slice (some ⟨r, 0, none⟩) m c') := hS2.cellAt 5 rfl
            have lS := hS2.lt
            have cR := hR2.cellAt cc (arrU_get 8 R cc hcc)
            have lR := hR2.lt
            have CT : _ = some (Value.int .i64 P.top) := (HPV.out w8 hQ2.below).cellAt 3 rfl
            have lP := (HPV.out w8 hQ2.below).lt
            have HH := Lib.hid (And.intro hQ2 (And.intro hR2 (And.intro hB2 (And.intro hI2 hS2))))
            clear hQ2 hR2 hB2 hI2 hS2
            generalize R cc = rc at *
            rw [HKP.out] at CT
            have e1 : (all : Int) / (k : Int) = ((all / k : Nat) : Int) := (Int.natCast_ediv all k).symm
            have e2 : (all : Int).tdiv (k : Int) = ((all / k : Nat) : Int) := by rw [Int.tdiv_eq_ediv_of_nonneg (by omega)]; exact e1
            have k1' : ¬ (k : Int) = 0 := by omega
            have k2' : ¬ k = 0 := by omega
            have kw : IntKind.u64.wrap (k : Int) = (k : Int) := by simp [IntKind.wrap, IntKind.bits, IntKind.signed]; omega
            have hak : all / k ≤ all := Nat.div_le_self _ _
            generalize all / k = ak at *
            have aw : IntKind.u64.wrap (ak : Int) = (ak : Int) := by simp [IntKind.wrap, IntKind.bits, IntKind.signed]; omega
            have w1 : IntKind.u64.wrap ((xm : Int) - xo) = (xm : Int) - xo := by simp [IntKind.wrap, IntKind.bits, IntKind.signed]; omega
            have w2 : IntKind.u64.wrap ((rc : Int) + (ak : Int)) = (rc : Int) + (ak : Int) := by simp [IntKind.wrap, IntKind.bits, IntKind.signed]; omega
            have g1 : ¬ (xm : Int) < rc := by omega
            have g2 : ¬ (rc : Int) < (xm : Int) - xo := by omega
            have g3 : ¬ (rc : Int) + (ak : Int) < xm := by omega
            go_quiet (fail)
            have hQ3 := HH.out.1.step (bdrewN (Below.refl _ _) nq)
            have hR3 := HH.out.2.1.drewN nq
            have hB3 := HH.out.2.2.1.drewN nq
            have hI3 := HH.out.2.2.2.1.step (bdrewN (Below.refl _ _) nq)
            have hS3 := HH.out.2.2.2.2.drewN nq
            generalize w8.drewN nq = w9 at *
            clear x0 x1 x2 cR lR CT lP kS5 lS HH
            go_wp2_with fail
            exact ⟨⟨qq + 1, by omega, by go_num, hQ3, hR3, hB3, hI3, hS3⟩, by simp [intOf]; omega⟩
          · obtain rfl : qq = m := by omega
            have hlen := hF.out.len
            have hRa : Hid (∀ d, d < 8 → (all / k < R d → toldB s qq d = true)) := Lib.hid (fun d hd hlt => by
              obtain ⟨i, hi, e⟩ := hF.out.told d hd hlt
              unfold toldB
              rw [List.take_of_length_le (by omega), List.any_eq_true]
              rw [it_get s i hi] at e
              exact ⟨s[i], List.getElem_mem hi, by rw [e, nmOf_list]; simp⟩)
            have e1 : (all : Int) / (k : Int) = ((all / k : Nat) : Int) := (Int.natCast_ediv all k).symm
            have e2 : (all : Int).tdiv (k : Int) = ((all / k : Nat) : Int) := by rw [Int.tdiv_eq_ediv_of_nonneg (by omega)]; exact e1
            have k1' : ¬ (k : Int) = 0 := by omega
            have k2' : ¬ k = 0 := by omega
            have kw : IntKind.u64.wrap (k : Int) = (k : Int) := by simp [IntKind.wrap, IntKind.bits, IntKind.signed]; omega
            have hak : all / k ≤ all := Nat.div_le_self _ _
            generalize all / k = ak at *
            have aw : IntKind.u64.wrap (ak : Int) = (ak : Int) := by simp [IntKind.wrap, IntKind.bits, IntKind.signed]; omega
            have hq1 : ¬ (qq : Int) < qq := by omega
            clear hIt hF
            generalize toldB s qq = tb at *
            go_wp2_with fail
            clear kS4 kS5 lS
            go_loopw [17] (fun i w8 => ∃ d : Nat, d ≤ 8 ∧ i = .int .i64 d ∧ QQ w4 g q w8 ∧ Blk w8 gr 49 (arrU 8 R) ∧ Blk w8 gt 50 (arrB 8 tb) ∧ Blk w8 gs 43 #[.int .i64 wn, .bool cl, .string s1, .string s2, .int .u64 (all : Nat), .slice A' qq c']) (fun i _ => 8 - (intOf i).toNat)
            case atStart => exact ⟨0, Nat.zero_le _, rfl, hQ, hR, hB, hS⟩
            case round =>
              clear hQ hR hB hS
              obtain ⟨d, hd, rfl, hQ, hR, hB, hS⟩ := hrel
              rename_i w8 _
              by_cases hd2 : d < 8
              · have cR := hR.cellAt d (arrU_get 8 _ _ hd2)
                have cT := hB.cellAt d (arrB_get 8 _ _ hd2)
                have hh := hRa.out d hd2
                have hRd := hRle.out d hd2
                generalize R d = rd at *
                generalize tb d = td at *
                have v1 : (d : Int) < 8 := by omega
                have b1 := hR.lt
                have b2 := hB.lt
                have CT : _ = some (Value.int .i64 P.top) := (HPV.out _ hQ.below).cellAt 3 rfl
                have lP := (HPV.out _ hQ.below).lt
                rw [HKP.out] at CT
                have HH := Lib.hid (And.intro hQ (And.intro hR (And.intro hB hS)))
                clear hQ hR hB hS
                go_upto_region 32 with fail
                by_cases hlt : ak < rd
                · have ht := hh hlt
                  subst ht
                  have v2 : (ak : Int) < rd := by omega
                  clear hh
                  go_quiet (fail)
                  have hQ3 := HH.out.1.step (bdrewN (Below.refl _ _) nq)
                  have hR3 := HH.out.2.1.drewN nq
                  have hB3 := HH.out.2.2.1.drewN nq
                  have hS3 := HH.out.2.2.2.drewN nq
                  clear cR cT CT lP b1 b2 HH
                  go_wp2_with fail
                  exact ⟨⟨d + 1, by omega, by go_num, hQ3, hR3, hB3, hS3⟩, by simp [intOf]; omega⟩
                · have v2 : ¬ (ak : Int) < rd := by omega
                  clear hh
                  go_quiet (fail)
                  have hQ3 := HH.out.1.step (bdrewN (Below.refl _ _) nq)
                  have hR3 := HH.out.2.1.drewN nq
                  have hB3 := HH.out.2.2.1.drewN nq
                  have hS3 := HH.out.2.2.2.drewN nq
                  clear cR cT CT lP b1 b2 HH
                  go_wp2_with fail
                  exact ⟨⟨d + 1, by omega, by go_num, hQ3, hR3, hB3, hS3⟩, by simp [intOf]; omega⟩
              · have v1 : ¬ (d : Int) < 8 := by omega
                have kS4 : _ = some (Value.int .u64 (all : Nat)) := hS.cellAt 4 rfl
                have lS := hS.lt
                go_wp2_with fail
                go_ret
                exact ⟨by simp, hb4.out.trans (hQ.below.mono hb4.out.size)⟩
end Go.Proofs.YtapiehddcdnadaaDoor

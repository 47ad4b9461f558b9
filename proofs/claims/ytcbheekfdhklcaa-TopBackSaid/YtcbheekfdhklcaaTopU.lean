/- The walk of TopBack. -/
import Derived.Test.YtcbheekfdhklcaaTopV
namespace Go.Proofs.Ytcbheekfdhklcaa
open Go.RowKit
set_option linter.unusedVariables false
set_option linter.unusedSimpArgs false
attribute [local go_sem high] neqI

theorem conv_new (W : World) (c : Nat) : (convert 22 9 (.slice (some ⟨W.heap.size, 0, none⟩) 1 1)).run Try.prog (W.alloc (.cells #[.int .u8 (97 + (c : Int))] 5)) = .ok (.string (nmOf c)) (W.alloc (.cells #[.int .u8 (97 + (c : Int))] 5)) := conv1 _ _ c (Blk.new W _ _)
theorem conv_drew (W : World) (c : Nat) : (convert 22 9 (.slice (some ⟨W.heap.size, 0, none⟩) 1 1)).run Try.prog ((W.alloc (.cells #[.int .u8 (97 + (c : Int))] 5)).drew) = .ok (.string (nmOf c)) ((W.alloc (.cells #[.int .u8 (97 + (c : Int))] 5)).drew) := conv1 _ _ c (Blk.new W _ _).drew
theorem allB_le (xs : List Int) (hx : ∀ v ∈ xs, 0 ≤ v ∧ v ≤ 255) : allB xs ≤ 2 * xs.length := by
  induction xs with
  | nil => simp [allB]
  | cons v xs ih =>
    have h1 := ih (fun w hw => hx w (List.mem_cons_of_mem _ hw))
    have h2 := hx v List.mem_cons_self
    unfold allB at *
    simp only [List.map_cons, List.sum_cons, List.length_cons]
    unfold byB
    unfold byB at h1
    omega

set_option maxRecDepth 100000 in
set_option maxHeartbeats 4000000 in
theorem topBack_walk (room : Int) (a : Option Addr) (n c : Nat) (xs : List Int) (a2 : Option Addr) (n2 c2 : Nat) (ys : List Int) (w : World) (hr : 0 ≤ room ∧ room ≤ 255) (hx : Ints .u8 w a n xs) (hy : Ints .u8 w a2 n2 ys) (hlc : n ≤ c) (hl : n ≤ 140737488351232) (hlc2 : n2 ≤ c2) (hl2 : n2 ≤ 140737488351232) :
    Calls Try.prog 7 #[.int .u8 room, .slice a n c, .slice a2 n2 c2] w fun e w' => e = .returned (.bool true) ∧ Below w.heap.size w w' := by
  have r1 : (1 + room % 6 : Int) = ((1 + room.toNat % 6 : Nat) : Int) := by omega
  generalize hk : 1 + room.toNat % 6 = k at *
  have hk1 : 1 ≤ k ∧ k ≤ 16 := by omega
  clear hk
  have HY := Lib.hid hy
  clear hy
  go_enter Try.func7, Try.ntmps7
  go_wp2_with fail
  refine (examples_any w).mono ?_
  rintro e w1 ⟨rfl, b1⟩
  go_wp2_with fail
  refine (tm_new (W := w) (base := w.heap.size) k hk1.1 hk1.2 b1 (Nat.le_refl _)).mono ?_
  rintro e w2 ⟨rfl, T2, b2⟩
  generalize hgg : w1.heap.size = g at *
  go_wp2_with fail
  have hge := T2.ge
  go_loopw [11] (fun i wr => ∃ j : Nat, j ≤ n ∧ j ≤ 40 ∧ i = .int .i64 j ∧ TM w w.heap.size g k (allB (xs.take j)) (listB k (xs.take j)) wr) (fun i _ => n - (intOf i).toNat)
  case atStart => exact ⟨0, Nat.zero_le _, Nat.zero_le _, rfl, T2⟩
  case round =>
    obtain ⟨j, hjn, hj2, rfl, T⟩ := hrel
    have hall : allB (xs.take j) ≤ 2 * (xs.take j).length := allB_le _ (fun v hv => hx.b8 v (List.mem_of_mem_take hv))
    have hal : allB (xs.take j) ≤ 80 := by rw [List.length_take] at hall; omega
    by_cases hc : j < n ∧ j < 40
    · obtain ⟨b, off, rfl, hb, hcell⟩ := hx.at_ (by omega)
      have x0 := hcell j hc.1
      have cb := (T.below.cell (p := ⟨b, off + j, none⟩) hb).trans x0
      have hv := hx.b8 (xs.getD j 0) (by rw [List.getD_eq_getElem?_getD, List.getElem?_eq_getElem (by rw [hx.len]; exact hc.1)]; exact List.getElem_mem _)
      have hsn := take_snoc xs j (by rw [hx.len]; exact hc.1)
      have A1 := allB_snoc (xs.take j) (xs.getD j 0)
      have L1 := listB_snoc k (xs.take j) (xs.getD j 0)
      rw [← hsn] at A1 L1
      have HA := Lib.hid A1
      have HL := Lib.hid L1
      clear hsn A1 L1 hcell hall
      generalize xs.getD j 0 = v at *
      have c1 : (j : Int) < n := by omega
      have c2 : (j : Int) < 40 := by omega
      have q1 : (1 + v / 128 : Int) = ((byB v : Nat) : Int) := by unfold byB; omega
      have q2 : (v % 12 : Int) = ((v.toNat % 12 : Nat) : Int) := by omega
      have q3 : v.tmod 12 = ((v.toNat % 12 : Nat) : Int) := by rw [Int.tmod_eq_emod_of_nonneg hv.1]; exact q2
      have q4 : v.tdiv 128 = v / 128 := Int.tdiv_eq_ediv_of_nonneg hv.1
      have hby : 1 ≤ byB v ∧ byB v ≤ 2 := by unfold byB; omega
      have hle : v.toNat % 12 < 12 := by omega
      generalize byB v = bv at *
      generalize v.toNat % 12 = lv at *
      have hle2 : ((lv : Nat) : Int) < 12 := by omega
      have q6 : IntKind.u8.wrap (v / 128) = v / 128 := by simp [IntKind.wrap, IntKind.bits, IntKind.signed]; omega
      have q7 : IntKind.u64.wrap (v / 128) = v / 128 := by simp [IntKind.wrap, IntKind.bits, IntKind.signed]; omega
      have q8 : IntKind.u64.wrap (bv : Int) = (bv : Int) := by simp [IntKind.wrap, IntKind.bits, IntKind.signed]; omega
      have q5 : IntKind.u8.wrap (97 + (lv : Int)) = 97 + (lv : Int) := by simp [IntKind.wrap, IntKind.bits, IntKind.signed]; omega
      have hz : addE (allB (xs.take j)) (nmOf lv) bv = 0 := addE_ok (by rw [nmOf_size]; omega) (by omega) (by omega)
      have hcv := fun W => conv_new W lv
      have hcd := fun W => conv_drew W lv
      have HT : Hid (∀ W, TM w w.heap.size g k (allB (xs.take j)) (listB k (xs.take j)) W → Calls Try.prog 11 #[.pointer (some ⟨g, 0, none⟩), .string (nmOf lv), .int .u64 bv] W fun e w' => e = .returned (.int .i64 0) ∧ TM w w.heap.size g k (allB (xs.take (j + 1))) (listB k (xs.take (j + 1))) w') := Lib.hid (fun W h => by
        refine (tm_add (nmOf lv) bv (by omega) (by rw [nmOf_size]; omega) h).mono ?_
        rintro e w5 ⟨rfl, T6, _⟩
        have e1 : stepS (allB (xs.take j)) (nmOf lv) bv = allB (xs.take (j + 1)) := by rw [HA.out]; exact if_pos hz
        have e2 : stepT k (allB (xs.take j)) (listB k (xs.take j)) (nmOf lv) bv = listB k (xs.take (j + 1)) := by rw [HL.out]; exact if_pos hz
        rw [e1, e2] at T6
        exact ⟨by rw [hz]; rfl, T6⟩)
      clear hz
      go_upto_region 11 with fail
      have hbw : b < wr.heap.size := Nat.lt_of_lt_of_le hb T.below.size
      clear x0
      go_region_with (first
        | (go_at_call 11; refine (HT.out _ ?_).mono ?_; (first | exact (T.alloc _).drew | exact T.alloc _ | exact (T.drew).alloc _); rintro e wA ⟨rfl, T9⟩))
      all_goals
        go_wp2_with fail
        exact ⟨⟨j + 1, by omega, by omega, by go_num, T9⟩, by simp [intOf]; omega⟩
    · have hBI := back_take k hk1.1 xs j (by rw [hx.len]; exact hjn)
      have hend : (¬ (j : Int) < n) ∨ ((j : Int) < n ∧ ¬ (j : Int) < 40) := by omega
      have hR : Hid (∀ s, Told (listB k (xs.take j)) s → RightP k (allB (xs.take j)) s) := Lib.hid (fun s hT => by
        obtain ⟨real, O⟩ := hBI.off
        exact right_of_told O (by omega) hBI.st hBI.sz hT)
      generalize listB k (xs.take j) = L at *
      generalize allB (xs.take j) = sA at *
      clear hall hx hc hBI
      rcases hend with c1 | ⟨c1, c2⟩
      all_goals
        go_wp2_with (first
          | (go_at_call 13; refine (tm_seen T).mono ?_; rintro e w3 ⟨rfl, rfl⟩)
          | (go_at_call 12; refine (tm_items T).mono ?_; rintro e w5 ⟨A', m, c', s, rfl, hT, hI, T5, hB5⟩; have hRR := hR.out s hT)
          | (go_at_call 20; refine (tt_of T5 hI hT hRR).mono ?_; rintro e w6 ⟨rfl, H, hB6⟩))
        have hp : Hid (L.Perm s) := Lib.hid hT.perm.symm
        clear hT hI T5 hRR hR T
        generalize w5.heap.size = g2 at *
        go_loopw [14] (fun i wr => ∃ (j2 : Nat) (LA LB : List It), j2 ≤ n2 ∧ j2 ≤ 20 ∧ i = .int .i64 j2 ∧ Hid (LA.Perm LB) ∧ TT w w.heap.size g g2 k (sA + j2) (sA + j2) LA LB wr) (fun i _ => n2 - (intOf i).toNat)
        case atStart => exact ⟨0, L, s, Nat.zero_le _, Nat.zero_le _, rfl, hp, H⟩
        case round =>
          clear H hp
          obtain ⟨j2, LA, LB, hjn2, hj20, rfl, hp, H⟩ := hrel
          by_cases hc2 : j2 < n2 ∧ j2 < 20
          · obtain ⟨b, off, rfl, hb, hcell⟩ := HY.out.at_ (by omega)
            have x0 := hcell j2 hc2.1
            have hbl := H.tm1.below
            have cb := (hbl.cell (p := ⟨b, off + j2, none⟩) hb).trans x0
            have hv := HY.out.b8 (ys.getD j2 0) (by rw [List.getD_eq_getElem?_getD, List.getElem?_eq_getElem (by rw [HY.out.len]; exact hc2.1)]; exact List.getElem_mem _)
            clear hcell x0
            generalize ys.getD j2 0 = v at *
            have d1 : (j2 : Int) < n2 := by omega
            have d2 : (j2 : Int) < 20 := by omega
            have q2 : (v % 12 : Int) = ((v.toNat % 12 : Nat) : Int) := by omega
            have q3 : v.tmod 12 = ((v.toNat % 12 : Nat) : Int) := by rw [Int.tmod_eq_emod_of_nonneg hv.1]; exact q2
            have hle : v.toNat % 12 < 12 := by omega
            generalize v.toNat % 12 = lv at *
            have hle2 : ((lv : Nat) : Int) < 12 := by omega
            have q5 : IntKind.u8.wrap (97 + (lv : Int)) = 97 + (lv : Int) := by simp [IntKind.wrap, IntKind.bits, IntKind.signed]; omega
            have hcv := fun W => conv_new W lv
            have hz : addE (sA + j2) (nmOf lv) 1 = 0 := addE_ok (by rw [nmOf_size]; omega) (by omega) (by omega)
            go_upto_region 19 with fail
            have H2 := H.alloc (.cells #[.int .u8 (97 + (lv : Int))] 5)
            generalize (wr.alloc (.cells #[.int .u8 (97 + (lv : Int))] 5)) = w7 at *
            have hnA := H2.tm1.inv.nd
            have hes : stepS (sA + j2) (nmOf lv) 1 = sA + (j2 + 1) := if_pos hz
            have hpA : (stepT k (sA + j2) LA (nmOf lv) 1).Perm (stepT k (sA + j2) LB (nmOf lv) 1) := by
              unfold stepT
              rw [if_pos hz, if_pos hz]
              exact addT_perm hp.out hnA hk1.1 _ _
            have hnA2 : (nms (stepT k (sA + j2) LA (nmOf lv) 1)).Nodup := (H2.tm1.inv.step hk1.1 (nmOf lv) 1).nd
            have hlt := least_perm (room := k) hpA hnA2
            have C1 : Hid (∀ W, TT w w.heap.size g g2 k (sA + j2) (sA + j2) LA LB W → Calls Try.prog 11 #[.pointer (some ⟨g, 0, none⟩), .string (nmOf lv), .int .u64 1] W fun e w' => e = .returned (.int .i64 0) ∧ TT w w.heap.size g g2 k (sA + (j2 + 1)) (sA + j2) (stepT k (sA + j2) LA (nmOf lv) 1) LB w') := Lib.hid (fun W h => by
              refine (tt_add1 (nmOf lv) 1 (by omega) (by rw [nmOf_size]; omega) h).mono ?_
              rintro e w' ⟨rfl, h'⟩
              rw [hes] at h'
              exact ⟨by rw [hz]; rfl, h'⟩)
            have C2 : Hid (∀ W, TT w w.heap.size g g2 k (sA + (j2 + 1)) (sA + j2) (stepT k (sA + j2) LA (nmOf lv) 1) LB W → Calls Try.prog 11 #[.pointer (some ⟨g2, 0, none⟩), .string (nmOf lv), .int .u64 1] W fun e w' => e = .returned (.int .i64 0) ∧ TT w w.heap.size g g2 k (sA + (j2 + 1)) (sA + (j2 + 1)) (stepT k (sA + j2) LA (nmOf lv) 1) (stepT k (sA + j2) LB (nmOf lv) 1) w') := Lib.hid (fun W h => by
              refine (tt_add2 (nmOf lv) 1 (by omega) (by rw [nmOf_size]; omega) h).mono ?_
              rintro e w' ⟨rfl, h'⟩
              rw [hes] at h'
              exact ⟨by rw [hz]; rfl, h'⟩)
            have HPA := Lib.hid hpA
            clear hpA hnA2 hnA hz hes hp
            generalize stepT k (sA + j2) LA (nmOf lv) 1 = LA2 at *
            generalize stepT k (sA + j2) LB (nmOf lv) 1 = LB2 at *
            have C3 : Hid (∀ W, TT w w.heap.size g g2 k (sA + (j2 + 1)) (sA + (j2 + 1)) LA2 LB2 W → Calls Try.prog 14 #[.pointer (some ⟨g, 0, none⟩)] W fun e w' => e = .returned (.int .u64 (leastT k LB2)) ∧ TT w w.heap.size g g2 k (sA + (j2 + 1)) (sA + (j2 + 1)) LA2 LB2 w') := Lib.hid (fun W h => by
              refine (tt_least1 h).mono ?_
              rintro e w' ⟨rfl, h'⟩
              exact ⟨by rw [hlt], h'⟩)
            have C4 : Hid (∀ W, TT w w.heap.size g g2 k (sA + (j2 + 1)) (sA + (j2 + 1)) LA2 LB2 W → Calls Try.prog 14 #[.pointer (some ⟨g2, 0, none⟩)] W fun e w' => e = .returned (.int .u64 (leastT k LB2)) ∧ TT w w.heap.size g g2 k (sA + (j2 + 1)) (sA + (j2 + 1)) LA2 LB2 w') := Lib.hid (fun W h => tt_least2 h)
            generalize leastT k LB2 = lt at *
            clear hlt H hcv cb
            go_wp2_with (first
                | (go_at_call 11; ((with_reducible refine (C1.out _ ?_).mono ?_); (first | exact H2 | exact H2.drew); rintro e wA ⟨rfl, H3⟩; replace H2 := H3; clear H3))
                | (go_at_call 11; ((with_reducible refine (C2.out _ ?_).mono ?_); (first | exact H2 | exact H2.drew); rintro e wA ⟨rfl, H3⟩; replace H2 := H3; clear H3))
                | (go_at_call 14; ((with_reducible refine (C3.out _ ?_).mono ?_); (first | exact H2 | exact H2.drew); rintro e wA ⟨rfl, H3⟩; replace H2 := H3; clear H3))
                | (go_at_call 14; ((with_reducible refine (C4.out _ ?_).mono ?_); (first | exact H2 | exact H2.drew); rintro e wA ⟨rfl, H3⟩; replace H2 := H3; clear H3)))
            all_goals
              exact ⟨⟨j2 + 1, LA2, LB2, by omega, by omega, by go_num, HPA, H2⟩, by simp [intOf]; omega⟩
          · have hend2 : (¬ (j2 : Int) < n2) ∨ ((j2 : Int) < n2 ∧ ¬ (j2 : Int) < 20) := by omega
            have hnd := H.tm1.inv.nd
            have HPP := Lib.hid (And.intro hp.out hnd)
            clear hp hnd hc2
            rcases hend2 with d1 | ⟨d1, d2⟩
            all_goals
              go_wp2_with fail
              refine (tm_items H.tm1).mono ?_
              rintro e w8 ⟨A1, m1, cc1, s1, rfl, hT1, hI1, _, hB8⟩
              have H8 := H.step hB8
              go_wp2_with fail
              refine (tm_items H8.tm2).mono ?_
              rintro e w9 ⟨A2, m2, cc2, s2, rfl, hT2, hI2, _, hB9⟩
              have H9 := H8.step hB9
              have I1 := hI1.step hB9
              have hss : s1 = s2 := hT1.unique hT2 HPP.out.1 HPP.out.2
              subst hss
              have hmm : m1 = m2 := by rw [← hI1.len, ← hI2.len]
              subst hmm
              have hm16 : m1 ≤ 16 := by have h1 := H.tm1.inv.len; have h2 := hT1.len; have h3 := hI2.len; omega
              clear hT1 hT2 hI1 H8 H hB8 hB9
              have hgi := guardI
              go_wp2_with fail
              go_loopw [18] (fun i wr => ∃ q : Nat, q ≤ m1 ∧ i = .int .i64 q ∧ Below w9.heap.size w9 wr) (fun i _ => m1 - (intOf i).toNat)
              case atStart => exact ⟨0, Nat.zero_le _, rfl, Below.refl _ _⟩
              case round =>
                obtain ⟨q, hq, rfl, hb⟩ := hrel
                by_cases hq2 : q < m1
                · obtain ⟨r1, rfl, _, hr1, _, hc1⟩ := I1.row (by omega)
                  obtain ⟨r2, rfl, _, hr2, _, hc2⟩ := hI2.row (by omega)
                  obtain ⟨x0, x1, x2⟩ := hc1 q hq2
                  obtain ⟨y0, y1, y2⟩ := hc2 q hq2
                  have e0 := (hb.cell (p := ⟨r1, q * 3, none⟩) hr1).trans x0
                  have e1 := (hb.cell (p := ⟨r1, q * 3 + 1, none⟩) hr1).trans x1
                  have e2 := (hb.cell (p := ⟨r1, q * 3 + 2, none⟩) hr1).trans x2
                  have f0 := (hb.cell (p := ⟨r2, q * 3, none⟩) hr2).trans y0
                  have f1 := (hb.cell (p := ⟨r2, q * 3 + 1, none⟩) hr2).trans y1
                  have f2 := (hb.cell (p := ⟨r2, q * 3 + 2, none⟩) hr2).trans y2
                  clear hc1 hc2 x0 x1 x2 y0 y1 y2
                  generalize s1.getD q default = X at *
                  have z1 : (q : Int) < m1 := by omega
                  go_upto_region 28 with fail
                  go_quiet (fail)
                  have hb2 := bdrewN hb nq
                  generalize wr.drewN nq = w11 at *
                  go_wp2_with fail
                  exact ⟨⟨q + 1, by omega, by go_num, hb2⟩, by simp [intOf]; omega⟩
                · have z1 : ¬ (q : Int) < m1 := by omega
                  have H11 := H9.step hb
                  go_wp2_with (first
                    | (go_at_call 13; ((with_reducible refine (tm_seen H11.tm1).mono ?_); rintro e w12 ⟨rfl, rfl⟩))
                    | (go_at_call 13; ((with_reducible refine (tm_seen H11.tm2).mono ?_); rintro e w12 ⟨rfl, rfl⟩)))
                  go_ret
                  exact ⟨by simp, H11.tm1.below⟩
theorem topBack_row (room : Int) (a : Option Addr) (len cap : Nat) (xs : List Int) (a2 : Option Addr) (len2 cap2 : Nat) (ys : List Int) (w : World) (h1 : (Lit.int .u8 room).wf = true) (hz : Ints .u8 w a len xs) (hc : len ≤ cap) (hl : len * 1 ≤ 140737488351232) (hz2 : Ints .u8 w a2 len2 ys) (hc2 : len2 ≤ cap2) (hl2 : len2 * 1 ≤ 140737488351232) :
    Calls Try.prog 7 #[.int .u8 room, .slice a len cap, .slice a2 len2 cap2] w fun e w' => e = .returned (.bool true) ∧ Below w.heap.size w w' :=
  topBack_walk room a len cap xs a2 len2 cap2 ys w (bounds_u8 h1) hz hz2 hc (by omega) hc2 (by omega)
end Go.Proofs.Ytcbheekfdhklcaa

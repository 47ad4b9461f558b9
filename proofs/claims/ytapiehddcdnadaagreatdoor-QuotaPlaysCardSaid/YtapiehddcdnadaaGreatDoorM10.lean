/- right: may items be told? TopBack: the plain law: what is told may be told again. Of; two tops at once. Two items that are one are not unequal. The reference's top in memory. -/
import Derived.Test.YtapiehddcdnadaaGreatDoorM9
import Derived.Deep.Onto
namespace Go.Proofs.YtapiehddcdnadaaGreatDoor
open Go.RowKit
set_option linter.unusedVariables false
set_option linter.unusedSimpArgs false

set_option maxRecDepth 100000 in
set_option maxHeartbeats 4000000 in
theorem t_right_call (room seen : Nat) (A : Option Addr) (n c : Nat) (l : List It) (w : World) (R : ItRow w A n l) (hnc : n ≤ c) (hn : n ≤ 140737488351232) (hroom : room ≤ 16) (hs : seen < 18446744073709551616) (hbd : ∀ x ∈ l, x.many < 18446744073709551616 ∧ x.over < 18446744073709551616 ∧ x.name.size ≤ 9223372036854775807) :
    Calls Tryz.prog 72 #[.int .i64 room, .int .u64 seen, .slice A n c] w fun e w' => Answers (RightP room seen l) e ∧ Below w.heap.size w w' := by
  have hln := R.len
  by_cases h1 : n ≤ room
  rotate_left
  · have h1' : (room : Int) < n := by omega
    have hno : ¬ RightP room seen l := fun h => h1 (by rw [← hln]; exact h.len)
    have HN := Lib.hid hno
    clear hno
    go_enter Tryz.func72, Tryz.ntmps72
    go_wp2_with fail
    go_ret
    exact ⟨answers_no HN.out, Below.refl _ _⟩
  have h1' : ¬ (room : Int) < n := by omega
  by_cases h2 : seen ≤ 4611686018427387904
  rotate_left
  · have h2' : (4611686018427387904 : Int) < seen := by omega
    have hno : ¬ RightP room seen l := fun h => h2 h.sn
    have HN := Lib.hid hno
    clear hno
    go_enter Tryz.func72, Tryz.ntmps72
    go_wp2_with fail
    go_ret
    exact ⟨answers_no HN.out, Below.refl _ _⟩
  have h2' : ¬ (4611686018427387904 : Int) < seen := by omega
  go_enter Tryz.func72, Tryz.ntmps72
  go_wp2_with fail
  go_loopw [7, 22] (fun left i wr => ∃ j : Nat, j ≤ n ∧ left = .int .u64 ((seen - sumQ l j : Nat) : Int) ∧ i = .int .i64 j ∧ Below w.heap.size w wr ∧ Hid (∀ k, k < j → OkAt room l (seen - sumQ l k) k) ∧ sumQ l j ≤ seen) (fun _ i _ => n - (intOf i).toNat)
  case atStart => exact ⟨0, Nat.zero_le _, rfl, rfl, Below.refl _ _, Lib.hid (fun k h => by omega), Nat.zero_le _⟩
  case round =>
    obtain ⟨j, hj, rfl, rfl, hB, HO, hsq⟩ := hrel
    by_cases hjn : j < n
    · obtain ⟨b, off, rfl, hbl, hcell⟩ := R.at_ (by omega)
      have Rr := R.step hB
      obtain ⟨x0, x1, x2⟩ := hcell j hjn
      obtain ⟨m1, hm1⟩ : ∃ m1, n = m1 + 1 := ⟨n - 1, by omega⟩
      have z1 := (hcell m1 (by omega)).2.1
      have hno : Hid (¬ OkAt room l (seen - sumQ l j) j → ¬ RightP room seen l) := Lib.hid (fun h hR => h (hR.ok j (by omega)))
      have hO : Hid (∀ left, OkAt room l left j ↔ twice l j = false ∧ (l.getD j default).name.size ≤ 64 ∧ (l.getD j default).over < (l.getD j default).many ∧ (l.getD j default).many ≤ left ∧ (l.getD j default).over ≤ (l.getD m1 default).many ∧ ((l.getD j default).over = 0 ∨ ¬ n < room) ∧ (j = 0 ∨ ahead (l.getD (j - 1) default) (l.getD j default) = true)) := Lib.hid (fun left => by
        have e1 : l.length - 1 = m1 := by omega
        constructor
        · rintro ⟨a1, a2, a3, a4, a5, a6, a7⟩
          rw [e1] at a5
          rw [hln] at a6
          exact ⟨a1, a2, a3, a4, a5, a6, a7⟩
        · rintro ⟨a1, a2, a3, a4, a5, a6, a7⟩
          exact ⟨a1, a2, a3, a4, by rw [e1]; exact a5, by rw [hln]; exact a6, a7⟩)
      have hsn := sumQ_succ l j (by omega)
      have hbx := hbd (l.getD j default) (by rw [it_get l j (by omega)]; exact List.getElem_mem _)
      have hbz := hbd (l.getD m1 default) (by rw [it_get l m1 (by omega)]; exact List.getElem_mem _)
      have y0 : 0 < j → w.cell? ⟨b, off + (j - 1) * 3, none⟩ = some (.string (l.getD (j - 1) default).name) ∧ w.cell? ⟨b, off + (j - 1) * 3 + 1, none⟩ = some (.int .u64 (l.getD (j - 1) default).many) ∧ w.cell? ⟨b, off + (j - 1) * 3 + 2, none⟩ = some (.int .u64 (l.getD (j - 1) default).over) := fun h => hcell (j - 1) (by omega)
      have e0 := (hB.cell (p := ⟨b, off + j * 3, none⟩) hbl).trans x0
      have e1 := (hB.cell (p := ⟨b, off + j * 3 + 1, none⟩) hbl).trans x1
      have e2 := (hB.cell (p := ⟨b, off + j * 3 + 2, none⟩) hbl).trans x2
      have hbw : b < wr.heap.size := Nat.lt_of_lt_of_le hbl hB.size
      have htw : Hid (((l.take j).any fun y => y.name.toList == (l.getD j default).name.toList) = twice l j) := Lib.hid rfl
      have q1 : ((n : Int) - 1) = (m1 : Int) := by omega
      have q2 : (m1 : Int) < n := by omega
      have HM1 := Lib.hid hm1
      clear hcell x0 x1 x2 hm1
      generalize hX : l.getD j default = X at *
      generalize hZ : (l.getD m1 default).many = zm at *
      generalize hSQ : sumQ l j = sq at *
      have HSQ := Lib.hid hSQ
      clear hSQ
      have j1 : (j : Int) < n := by omega
      go_upto_region 7 with fail
      have hb6 : Below w.heap.size w (wr.alloc (.cells #[.string X.name, .int .u64 X.many, .int .u64 X.over] 75)) := balloc hB _
      have X6 := Blk.new wr 75 #[.string X.name, .int .u64 X.many, .int .u64 X.over]
      generalize (wr.alloc (.cells #[.string X.name, .int .u64 X.many, .int .u64 X.over] 75)) = w6 at *
      generalize wr.heap.size = xb at *
      have k0 : w6.cell? ⟨xb, 0, none⟩ = some (.string X.name) := X6.cellAt 0 rfl
      have R6 := R.step hb6
      have HX := Lib.hid hX
      clear e0 e1 e2 hX
      have j2 : (j : Int) ≤ c := by omega
      go_upto_region 8 with (go_at_call 87; refine (contains_call X xb w6 k0 X6.lt b off n c j l hj (by omega) R6 (by omega)).mono ?_; rintro e w7 ⟨rfl, hb7⟩; rw [htw.out])
      have X7 := Blk.step hb7 X6
      have hb8 : Below w.heap.size w w7 := bstep hb7 hb6
      have z7 := (hb8.cell (p := ⟨b, off + m1 * 3 + 1, none⟩) hbl).trans z1
      have l7 := X7.lt
      have lb7 : b < w7.heap.size := Nat.lt_of_lt_of_le hbl hb8.size
      have p0 : w7.cell? ⟨xb, 0, none⟩ = some (.string X.name) := X7.cellAt 0 rfl
      have p1 : w7.cell? ⟨xb, 1, none⟩ = some (.int .u64 X.many) := X7.cellAt 1 rfl
      have p2 : w7.cell? ⟨xb, 2, none⟩ = some (.int .u64 X.over) := X7.cellAt 2 rfl
      have y7 : 0 < j → w7.cell? ⟨b, off + (j - 1) * 3, none⟩ = some (.string (l.getD (j - 1) default).name) ∧ w7.cell? ⟨b, off + (j - 1) * 3 + 1, none⟩ = some (.int .u64 (l.getD (j - 1) default).many) ∧ w7.cell? ⟨b, off + (j - 1) * 3 + 2, none⟩ = some (.int .u64 (l.getD (j - 1) default).over) := fun h =>
        ⟨(hb8.cell (p := ⟨b, off + (j - 1) * 3, none⟩) hbl).trans (y0 h).1, (hb8.cell (p := ⟨b, off + (j - 1) * 3 + 1, none⟩) hbl).trans (y0 h).2.1, (hb8.cell (p := ⟨b, off + (j - 1) * 3 + 2, none⟩) hbl).trans (y0 h).2.2⟩
      have q3 : IntKind.i64.wrap (m1 : Int) = (m1 : Int) := by rw [IntKind.wrap_i64]; omega
      have HSN := Lib.hid hsn
      clear k0 X6 R6 hb6 hb7 hsn R hbw Rr
      cases htv : twice l j
      rotate_left
      · have hN := hno.out (fun h => by have := ((hO.out _).1 h).1; rw [htv] at this; cases this)
        have HN := Lib.hid hN
        clear hN
        go_wp2_with fail
        go_ret
        exact ⟨answers_no HN.out, hb8⟩
      by_cases g1 : X.name.size ≤ 64
      rotate_left
      · have hN := hno.out (fun h => g1 ((hO.out _).1 h).2.1)
        have HN := Lib.hid hN
        clear hN
        have g1' : (64 : Int) < X.name.size := by omega
        go_wp2_with fail
        go_ret
        exact ⟨answers_no HN.out, hb8⟩
      have g1' : ¬ (64 : Int) < X.name.size := by omega
      by_cases g2 : X.over < X.many
      rotate_left
      · have hN := hno.out (fun h => g2 ((hO.out _).1 h).2.2.1)
        have HN := Lib.hid hN
        clear hN
        have g2' : (X.many : Int) ≤ X.over := by omega
        go_wp2_with fail
        go_ret
        exact ⟨answers_no HN.out, hb8⟩
      have g2' : ¬ (X.many : Int) ≤ X.over := by omega
      obtain ⟨left, hleft⟩ : ∃ left, seen - sq = left := ⟨_, rfl⟩
      rw [hleft] at hno ⊢
      have HLE := Lib.hid hleft
      clear hleft
      by_cases g3 : X.many ≤ left
      rotate_left
      · have hN := hno.out (fun h => g3 ((hO.out _).1 h).2.2.2.1)
        have HN := Lib.hid hN
        clear hN
        have g3' : (left : Int) < X.many := by omega
        go_wp2_with fail
        go_ret
        exact ⟨answers_no HN.out, hb8⟩
      have g3' : ¬ (left : Int) < X.many := by omega
      by_cases g4 : X.over ≤ zm
      rotate_left
      · have hN := hno.out (fun h => g4 ((hO.out _).1 h).2.2.2.2.1)
        have HN := Lib.hid hN
        clear hN
        have g4' : (zm : Int) < X.over := by omega
        go_upto_region 10 with fail
        go_quiet (fail)
        have hb9 : Below w.heap.size w (w7.drewN nq) := bdrewN hb8 _
        go_wp2_with fail
        go_ret
        exact ⟨answers_no HN.out, hb9⟩
      have g4' : ¬ (zm : Int) < X.over := by omega
      by_cases g5 : X.over = 0 ∨ ¬ n < room
      rotate_left
      · have hN := hno.out (fun h => g5 ((hO.out _).1 h).2.2.2.2.2.1)
        have HN := Lib.hid hN
        clear hN
        rw [not_or] at g5
        have g5' : (0 : Int) < X.over := by omega
        have g5'' : (n : Int) < room := by omega
        have g5n : 0 < X.over := by omega
        clear g5
        go_upto_region 10 with fail
        go_quiet (fail)
        have hb9 : Below w.heap.size w (w7.drewN nq) := bdrewN hb8 _
        go_wp2_with fail
        go_ret
        exact ⟨answers_no HN.out, hb9⟩
      have hOK : Hid ((j = 0 ∨ ahead (l.getD (j - 1) default) X = true) → OkAt room l left j) := Lib.hid (fun h => (hO.out _).2 ⟨htv, g1, g2, g3, g4, g5, h⟩)
      have w1 : IntKind.u64.wrap ((left : Int) - X.many) = ((seen - sumQ l (j + 1) : Nat) : Int) := by
        have hleft := HLE.out
        have e : seen - sumQ l (j + 1) = left - X.many := by rw [HSN.out, ← hleft]; exact Nat.sub_add_eq _ _ _
        rw [e]
        exact wrap_sub left X.many g3 (Nat.lt_of_le_of_lt (by rw [← hleft]; exact Nat.sub_le _ _) hs)
      have hsq1 : sumQ l (j + 1) ≤ seen := by
        have hleft := HLE.out
        have h := g3
        rw [← hleft] at h
        rw [HSN.out]
        exact add_le_of _ _ _ h hsq
      generalize hs1 : sumQ l (j + 1) = sq1 at *
      have HS1 := Lib.hid hs1
      clear hs1
      by_cases hj0 : j = 0
      · have j3 : ¬ (0 : Int) < j := by omega
        have j4 : ¬ 0 < j := by omega
        have hok := Lib.hid (hOK.out (.inl hj0))
        clear hj0 y7 y0
        rcases g5 with g5 | g5
        · have g5' : ¬ (0 : Int) < X.over := by omega
          have g5n : ¬ 0 < X.over := by omega
          clear g5
          go_upto_region 10 with fail
          go_quiet (fail)
          have hb9 : Below w.heap.size w (w7.drewN nq) := bdrewN hb8 _
          go_wp2_with fail
          refine ⟨⟨j + 1, by omega, by rw [HS1.out], by go_num, hb9, Lib.hid (fun k hk => ?_), by rw [HS1.out]; exact hsq1⟩, by simp [intOf]; omega⟩
          rcases Nat.lt_or_ge k j with h | h
          · exact HO.out k h
          · have e : k = j := by omega
            rw [e, HSQ.out, HLE.out]
            exact hok.out
        · have g5' : ¬ (n : Int) < room := by omega
          by_cases g6 : 0 < X.over
          · have g6' : (0 : Int) < X.over := by omega
            go_upto_region 10 with fail
            go_quiet (fail)
            have hb9 : Below w.heap.size w (w7.drewN nq) := bdrewN hb8 _
            go_wp2_with fail
            refine ⟨⟨j + 1, by omega, by rw [HS1.out], by go_num, hb9, Lib.hid (fun k hk => ?_), by rw [HS1.out]; exact hsq1⟩, by simp [intOf]; omega⟩
            rcases Nat.lt_or_ge k j with h | h
            · exact HO.out k h
            · have e : k = j := by omega
              rw [e, HSQ.out, HLE.out]
              exact hok.out
          · have g6' : ¬ (0 : Int) < X.over := by omega
            go_upto_region 10 with fail
            go_quiet (fail)
            have hb9 : Below w.heap.size w (w7.drewN nq) := bdrewN hb8 _
            go_wp2_with fail
            refine ⟨⟨j + 1, by omega, by rw [HS1.out], by go_num, hb9, Lib.hid (fun k hk => ?_), by rw [HS1.out]; exact hsq1⟩, by simp [intOf]; omega⟩
            rcases Nat.lt_or_ge k j with h | h
            · exact HO.out k h
            · have e : k = j := by omega
              rw [e, HSQ.out, HLE.out]
              exact hok.out
      · obtain ⟨pj, hpj⟩ : ∃ pj, j = pj + 1 := ⟨j - 1, by omega⟩
        have hjp : j - 1 = pj := by omega
        have y8 := y7 (by omega)
        rw [hjp] at y8 hOK hO
        have q4 : ((j : Int) - 1) = (pj : Int) := by omega
        have q5 : (pj : Int) < n := by omega
        have q6 : IntKind.i64.wrap (pj : Int) = (pj : Int) := by rw [IntKind.wrap_i64]; omega
        have j3 : (0 : Int) < j := by omega
        have j4 : 0 < j := by omega
        generalize l.getD pj default = P at *
        have hcmp := fun W => order_call P X W
        clear hpj hjp y7 y0
        have hcl : decide (cmpI P X < 0) = ahead P X := cmpI_lt P X
        generalize cmpI P X = cm at *
        obtain ⟨bb, hbb⟩ : ∃ bb, decide (0 ≤ cm) = bb := ⟨_, rfl⟩
        have hah : ahead P X = !bb := by
          rw [← hcl, ← hbb]
          by_cases h : cm < 0
          · have h2 : ¬ 0 ≤ cm := by omega
            simp [h, h2]
          · have h2 : 0 ≤ cm := by omega
            simp [h, h2]
        have HAH := Lib.hid hah
        have HCM := Lib.hid hcmp
        clear hcmp hbd hbx hbz z1 hcl hah
        rcases Nat.eq_zero_or_pos X.over with g6 | g6
        · have g5' : ¬ (0 : Int) < X.over := by omega
          have g5n : ¬ 0 < X.over := by omega
          clear g5 g6
          go_upto_region 10 with fail
          refine wp_region_still_tail 31 (by kernel_rfl) (by kernel_rfl) ?_
          have hb8' := bdrew hb8
          have X8 := X7.drew
          have y81 : w7.drew.cell? ⟨b, off + pj * 3, none⟩ = some (.string P.name) := y8.1
          have y82 : w7.drew.cell? ⟨b, off + pj * 3 + 1, none⟩ = some (.int .u64 P.many) := y8.2.1
          have y83 : w7.drew.cell? ⟨b, off + pj * 3 + 2, none⟩ = some (.int .u64 P.over) := y8.2.2
          have z8 : w7.drew.cell? ⟨b, off + m1 * 3 + 1, none⟩ = some (.int .u64 zm) := z7
          have p0' : w7.drew.cell? ⟨xb, 0, none⟩ = some (.string X.name) := p0
          have p1' : w7.drew.cell? ⟨xb, 1, none⟩ = some (.int .u64 X.many) := p1
          have p2' : w7.drew.cell? ⟨xb, 2, none⟩ = some (.int .u64 X.over) := p2
          have l8 : xb < w7.drew.heap.size := l7
          have lb8 : b < w7.drew.heap.size := lb7
          clear y8 z7 p0 p1 p2 l7 lb7 X7 hb8
          change wpStill _ _ w7.drew _ _ _
          generalize hw9 : w7.drew = w9 at *
          have HW9 := Lib.hid hw9
          clear hw9
          simp only [List.take_succ_cons, List.take_zero, List.drop_succ_cons, List.drop_zero]
          refine still_gen (fun KK hKK => ?_)
          repeat still_step
          refine wpStill_nil ?_
          refine hKK.out _ ?_
          clear hKK KK
          have hw9 := HW9.out
          clear HW9
          subst hw9
          change wpList _ _ _ _ _ w7.drew
          go_wp2_with (first | (go_at_call 75; refine (HCM.out _).mono ?_; rintro e wA ⟨rfl, hL⟩; have hb9 := bstep hL.below hb8'; have X9 := Blk.step hL.below X8; have p9 : wA.cell? ⟨xb, 1, none⟩ = some (.int .u64 X.many) := X9.cellAt 1 rfl; have l9 := X9.lt; clear hL))
          all_goals (rename_i hbv; have hah := HAH.out; rw [hbv] at hah)
          all_goals first
            | (go_ret
               refine ⟨answers_no (hno.out (fun h => ?_)), hb9⟩
               have h2 := ((hO.out _).1 h).2.2.2.2.2.2
               rcases h2 with h2 | h2
               · exact hj0 h2
               · rw [hah] at h2; simp at h2)
            | (refine ⟨⟨j + 1, by omega, by rw [HS1.out], by go_num, hb9, Lib.hid (fun k hk => ?_), by rw [HS1.out]; exact hsq1⟩, by simp [intOf]; omega⟩
               rcases Nat.lt_or_ge k j with h | h
               · exact HO.out k h
               · have e : k = j := by omega
                 rw [e, HSQ.out, HLE.out]
                 exact hOK.out (.inr (by simpa using hah)))
        · have g6' : (0 : Int) < X.over := by omega
          have g7 : ¬ n < room := by rcases g5 with h | h; omega; exact h
          have g7' : ¬ (n : Int) < room := by omega
          clear g5
          go_upto_region 10 with fail
          refine wp_region_still_tail 31 (by kernel_rfl) (by kernel_rfl) ?_
          have hb8' := bdrew hb8
          have X8 := X7.drew
          have y81 : w7.drew.cell? ⟨b, off + pj * 3, none⟩ = some (.string P.name) := y8.1
          have y82 : w7.drew.cell? ⟨b, off + pj * 3 + 1, none⟩ = some (.int .u64 P.many) := y8.2.1
          have y83 : w7.drew.cell? ⟨b, off + pj * 3 + 2, none⟩ = some (.int .u64 P.over) := y8.2.2
          have z8 : w7.drew.cell? ⟨b, off + m1 * 3 + 1, none⟩ = some (.int .u64 zm) := z7
          have p0' : w7.drew.cell? ⟨xb, 0, none⟩ = some (.string X.name) := p0
          have p1' : w7.drew.cell? ⟨xb, 1, none⟩ = some (.int .u64 X.many) := p1
          have p2' : w7.drew.cell? ⟨xb, 2, none⟩ = some (.int .u64 X.over) := p2
          have l8 : xb < w7.drew.heap.size := l7
          have lb8 : b < w7.drew.heap.size := lb7
          clear y8 z7 p0 p1 p2 l7 lb7 X7 hb8
          change wpStill _ _ w7.drew _ _ _
          generalize hw9 : w7.drew = w9 at *
          have HW9 := Lib.hid hw9
          clear hw9
          simp only [List.take_succ_cons, List.take_zero, List.drop_succ_cons, List.drop_zero]
          refine still_gen (fun KK hKK => ?_)
          repeat still_step
          refine wpStill_nil ?_
          refine hKK.out _ ?_
          clear hKK KK
          have hw9 := HW9.out
          clear HW9
          subst hw9
          change wpList _ _ _ _ _ w7.drew
          go_wp2_with (first | (go_at_call 75; refine (HCM.out _).mono ?_; rintro e wA ⟨rfl, hL⟩; have hb9 := bstep hL.below hb8'; have X9 := Blk.step hL.below X8; have p9 : wA.cell? ⟨xb, 1, none⟩ = some (.int .u64 X.many) := X9.cellAt 1 rfl; have l9 := X9.lt; clear hL))
          all_goals (rename_i hbv; have hah := HAH.out; rw [hbv] at hah)
          all_goals first
            | (go_ret
               refine ⟨answers_no (hno.out (fun h => ?_)), hb9⟩
               have h2 := ((hO.out _).1 h).2.2.2.2.2.2
               rcases h2 with h2 | h2
               · exact hj0 h2
               · rw [hah] at h2; simp at h2)
            | (refine ⟨⟨j + 1, by omega, by rw [HS1.out], by go_num, hb9, Lib.hid (fun k hk => ?_), by rw [HS1.out]; exact hsq1⟩, by simp [intOf]; omega⟩
               rcases Nat.lt_or_ge k j with h | h
               · exact HO.out k h
               · have e : k = j := by omega
                 rw [e, HSQ.out, HLE.out]
                 exact hOK.out (.inr (by simpa using hah)))
    · have e : j = n := by omega
      have hsa := sumQ_all l j (by omega)
      rw [hsa] at hsq ⊢
      have j1 : ¬ (j : Int) < n := by omega
      by_cases hz : seen - (l.map (·.many)).sum = 0
      · have hR : RightP room seen l := ⟨by rw [hln]; exact h1, h2, fun k hk => HO.out k (by omega), by omega⟩
        have HR := Lib.hid hR
        rw [hz]
        clear hR hz e hsa
        go_wp2_with fail
        go_ret
        exact ⟨answers_yes HR.out, hB⟩
      · have hR : ¬ RightP room seen l := fun h => hz (by have := h.sum; omega)
        have HR := Lib.hid hR
        generalize seen - (l.map (·.many)).sum = left at *
        have hz1 : ((left : Int) == 0) = false := by simp; omega
        clear hR e hsa
        go_wp2_with fail
        go_ret
        exact ⟨answers_no HR.out, hB⟩
end Go.Proofs.YtapiehddcdnadaaGreatDoor
namespace Go.Proofs.YtapiehddcdnadaaGreatDoor
open Go.RowKit
set_option linter.unusedVariables false
set_option linter.unusedSimpArgs false

theorem right_of_told {k all : Nat} {L s : List It} {real : List UInt8 → Nat} (O : Offenders k L real all) (hs : all ≤ 4611686018427387904) (hst : ∀ x ∈ L, x.over < x.many) (hsz : ∀ x ∈ L, x.name.size ≤ 64) (hT : Told L s) : RightP k all s := by
  have hsum : (s.map (·.many)).sum = all := by rw [(hT.perm.map _).sum_nat]; exact O.sum
  have hlen := hT.perm.length_eq
  refine ⟨by rw [hlen]; exact O.len, hs, fun i hi => ?_, hsum⟩
  have hm := hT.perm.subset (List.getElem_mem hi)
  have hg := it_get s i hi
  have hnd := hT.nodup O.nodup
  refine ⟨?_, ?_, ?_, ?_, ?_, ?_, ?_⟩
  · unfold twice
    rw [hg]
    rw [List.any_eq_false]
    intro o ho he
    obtain ⟨q, hq, rfl⟩ := List.mem_iff_getElem.1 ho
    rw [List.length_take] at hq
    rw [List.getElem_take] at he
    have hne := List.pairwise_iff_getElem.1 hnd q i (by simp; omega) (by simpa using hi) (by omega)
    rw [beq_iff_eq, Lib.toList_data, Lib.toList_data] at he
    exact hne (by simpa using he)
  · rw [hg]; exact hsz _ hm
  · rw [hg]; exact hst _ hm
  · have h1 := sumQ_succ s i hi
    have h2 := sumQ_le s (i + 1)
    rw [hsum, h1] at h2
    omega
  · rw [hg, it_get s (s.length - 1) (by omega)]
    exact Nat.le_trans (O.ov _ hm) (least_le (hT.perm.subset (List.getElem_mem _)))
  · rw [hg]
    by_cases h : s.length < k
    · have h1 := O.ov _ hm
      unfold leastT at h1
      rw [if_pos (by omega)] at h1
      exact .inl (by omega)
    · exact .inr h
  · by_cases h0 : i = 0
    · exact .inl h0
    · refine .inr ?_
      rw [hg, it_get s (i - 1) (by omega)]
      have h1 := List.pairwise_iff_getElem.1 hT.sort (i - 1) i (by omega) hi (by omega)
      cases h2 : ahead s[i - 1] s[i]
      · have h3 := ahead_an h2 h1
        exact absurd h3.2 (by
          have := List.pairwise_iff_getElem.1 hnd (i - 1) i (by simp; omega) (by simpa using hi) (by omega)
          simpa using this)
      · rfl

def byB (v : Int) : Nat := 1 + v.toNat / 128
def listB (k : Nat) (xs : List Int) : List It := xs.foldl (fun l v => addT k l (nmOf (v.toNat % 12)) (byB v)) []
def allB (xs : List Int) : Nat := (xs.map byB).sum
theorem listB_snoc (k : Nat) (xs : List Int) (v : Int) : listB k (xs ++ [v]) = addT k (listB k xs) (nmOf (v.toNat % 12)) (byB v) := by unfold listB; simp
theorem allB_snoc (xs : List Int) (v : Int) : allB (xs ++ [v]) = allB xs + byB v := by unfold allB; simp
theorem addT_strict {k : Nat} {l : List It} {nm : ByteArray} {n : Nat} (h0 : 0 < k) (hn : 0 < n) (h : ∀ x ∈ l, x.over < x.many) : ∀ x ∈ addT k l nm n, x.over < x.many := by
  intro x hx
  unfold addT at hx
  cases hf : findI l nm with
  | some j =>
    rw [hf] at hx
    obtain ⟨hj, _⟩ := findI_some hf
    rcases mem_set_it hj hx with rfl | ⟨i, hi, _, rfl⟩
    · have := h _ (List.getElem_mem hj)
      rw [it_get l j hj]
      simp only
      omega
    · exact h _ (List.getElem_mem hi)
  | none =>
    rw [hf] at hx
    simp only at hx
    split at hx
    · rcases List.mem_append.1 hx with h1 | h1
      · exact h x h1
      · rw [List.mem_singleton] at h1; subst h1; simp only; omega
    · next hlt =>
      have hl : l ≠ [] := fun e => by subst e; simp at hlt; omega
      rcases mem_set_it (worst_lt l hl) hx with rfl | ⟨i, hi, _, rfl⟩
      · simp only; omega
      · exact h _ (List.getElem_mem hi)
structure BackInv (k all : Nat) (L : List It) : Prop where
  off : ∃ real, Offenders k L real all
  st : ∀ x ∈ L, x.over < x.many
  sz : ∀ x ∈ L, x.name.size ≤ 64
theorem BackInv.add {k all : Nat} {L : List It} (B : BackInv k all L) (h0 : 0 < k) (nm : ByteArray) (hnm : nm.size ≤ 64) (n : Nat) (hn : 0 < n) : BackInv k (all + n) (addT k L nm n) := by
  obtain ⟨real, O⟩ := B.off
  refine ⟨⟨_, O.add h0 nm n⟩, addT_strict h0 hn B.st, fun x hx => ?_⟩
  rcases addT_names hx h0 with e | ⟨y, hy, e⟩
  · rw [e]; exact hnm
  · rw [e]; exact B.sz y hy
theorem BackInv.nil (k : Nat) : BackInv k 0 [] := ⟨⟨_, off_nil k⟩, by simp, by simp⟩
theorem back_take (k : Nat) (h0 : 0 < k) (xs : List Int) : ∀ j, j ≤ xs.length → BackInv k (allB (xs.take j)) (listB k (xs.take j))
  | 0, _ => BackInv.nil k
  | j + 1, h => by
    rw [take_snoc xs j (by omega), allB_snoc, listB_snoc]
    exact (back_take k h0 xs j (by omega)).add h0 _ (by rw [nmOf_size]; omega) _ (by unfold byB; omega)
end Go.Proofs.YtapiehddcdnadaaGreatDoor
namespace Go.Proofs.YtapiehddcdnadaaGreatDoor
open Go.RowKit
set_option linter.unusedVariables false
set_option linter.unusedSimpArgs false

set_option maxRecDepth 100000 in
set_option maxHeartbeats 1000000 in
theorem of_yes (base b0 room seen : Nat) (A : Option Addr) (n c : Nat) (l : List It) (w : World) (hb : base ≤ w.heap.size) (hrm : 1 ≤ room ∧ room ≤ 16) (I : Its w b0 A n c l) (hR : RightP room seen l) :
    Calls Tryz.prog 47 #[.int .i64 room, .int .u64 seen, .slice A n c] w fun e w' => (∃ A' c', e = .returned (.tuple #[.pointer (some ⟨w.heap.size, 0, none⟩), .int .i64 0]) ∧ Tp w' base w.heap.size room seen A' n c' l ∧ (∀ q, Value.ownBlock (.slice A' n c') = some q → w.heap.size ≤ q)) ∧ Below w.heap.size w w' := by
  have hln := I.len
  have hlr := hR.len
  have hn16 : n ≤ 16 := by omega
  have hsn := hR.sn
  have hnc : n ≤ c := by
    rcases Nat.eq_zero_or_pos n with h | h
    · omega
    · obtain ⟨_, _, _, _, h4, _⟩ := I.row h; exact h4
  have hmany : ∀ x ∈ l, x.many ≤ 4611686018427387904 ∧ x.over ≤ 4611686018427387904 ∧ x.name.size ≤ 140737488355328 := fun x hx => by
    have h1 := mem_le_sum hx
    rw [hR.sum] at h1
    obtain ⟨i, hi, rfl⟩ := List.mem_iff_getElem.1 hx
    have h2 := hR.ok i hi
    have h3 := h2.ov
    have h4 := h2.nm
    rw [it_get l i hi] at h3 h4
    exact ⟨by omega, by omega, by omega⟩
  have hN := new_yes room hrm.1 hrm.2 base w hb
  have hRC := fun W (R : ItRow W A n l) => t_right_call room seen A n c l W R hnc (by omega) hrm.2 (by omega) (fun x hx => by have := hmany x hx; omega)
  have HM := Lib.hid hmany
  have HR := Lib.hid hR
  have HRC := Lib.hid hRC
  clear hmany hR hRC
  go_enter Tryz.func47, Tryz.ntmps47
  go_wp2_with (first
    | (go_at_call 31
       refine hN.mono ?_
       rintro e w1 ⟨rfl, T1, b1, l1⟩
       have I1 := I.step b1)
    | (go_at_call 72
       refine (HRC.out w1 I1.itRow).mono ?_
       rintro e w2 ⟨h, b2⟩
       have h' : e = .returned (.bool true) := (by rcases h with ⟨_, h⟩ | ⟨h, _⟩; exact h; exact absurd HR.out h)
       subst h'
       have I2 := I1.step b2
       have T2 := T1.step b2)
    | (go_at_call 73
       refine (clone_call b0 A n c l w2 I2 hn16).mono ?_
       rintro e w3 ⟨A', c', rfl, I3, b3⟩
       have T3 := T2.step b3
       have c0 : w3.cell? ⟨w.heap.size, 0, none⟩ = some (.slice none 0 0) := T3.blk.cellAt 0 rfl
       have c2 : w3.cell? ⟨w.heap.size, 2, none⟩ = some (.int .u64 0) := T3.blk.cellAt 2 rfl
       have f0 := T3.blk.frozen 0
       have f2 := (T3.blk.put 0 (.slice A' n c')).frozen 2
       have hfar := I3.far T3.blk (by decide)
       have hlt3 := T3.blk.lt
       have BB : Blk ((w3.setCell ⟨w.heap.size, 0, none⟩ (.slice A' n c')).setCell ⟨w.heap.size, 2, none⟩ (.int .u64 seen)) w.heap.size 122 #[.slice A' n c', .int .i64 room, .int .u64 seen] := (T3.blk.put 0 (.slice A' n c')).put 2 (.int .u64 seen)
       have hG : w3.grownBy ((w3.setCell ⟨w.heap.size, 0, none⟩ (.slice A' n c')).setCell ⟨w.heap.size, 2, none⟩ (.int .u64 seen)) (some w.heap.size) := only_setCell (p := ⟨w.heap.size, 2, none⟩) (only_setCell (p := ⟨w.heap.size, 0, none⟩) (only_refl _ _) (.inl rfl) _) (.inl rfl) _
       have b123 : Below w.heap.size w w3 := bstep b3 (bstep b2 b1)))
  go_ret2
  have hbb : w.heap.size ≤ w2.heap.size := (bstep b2 b1).size
  refine ⟨⟨A', c', rfl, ⟨BB, ⟨(I3.own.kept hG (.inr (fun e => hfar e.symm))).mono (by omega)⟩, hb, hrm, by omega, by omega, fun x hx => ⟨(HM.out x hx).1, (HM.out x hx).2.1⟩⟩, fun q hq => ?_⟩, bonly b123 hG (Nat.le_refl _)⟩
  have := (I3.own.lt q hq).1
  omega

/-- Two tops at once. -/
def TT (W : World) (base g1 g2 room s1 s2 : Nat) (L1 L2 : List It) (w : World) : Prop := ∃ A1 n1 c1 A2 n2 c2, Tp w base g1 room s1 A1 n1 c1 L1 ∧ Tp w base g2 room s2 A2 n2 c2 L2 ∧ g1 ≠ g2 ∧
  (∀ q, Value.ownBlock (.slice A1 n1 c1) = some q → Value.ownBlock (.slice A2 n2 c2) ≠ some q) ∧ Inv room s1 L1 ∧ Inv room s2 L2 ∧ Below base W w ∧ base ≤ W.heap.size
section
variable {W w w' : World} {base g1 g2 room s1 s2 : Nat} {L1 L2 : List It}
theorem TT.symm (h : TT W base g1 g2 room s1 s2 L1 L2 w) : TT W base g2 g1 room s2 s1 L2 L1 w := by
  obtain ⟨A1, n1, c1, A2, n2, c2, T1, T2, hg, hr, I1, I2, hB, hb⟩ := h
  exact ⟨A2, n2, c2, A1, n1, c1, T2, T1, fun e => hg e.symm, fun q h1 h2 => hr q h2 h1, I2, I1, hB, hb⟩
theorem TT.tm1 (h : TT W base g1 g2 room s1 s2 L1 L2 w) : TM W base g1 room s1 L1 w := by
  obtain ⟨A1, n1, c1, A2, n2, c2, T1, T2, hg, hr, I1, I2, hB, hb⟩ := h
  exact ⟨A1, n1, c1, T1, I1, hB, hb⟩
theorem TT.tm2 (h : TT W base g1 g2 room s1 s2 L1 L2 w) : TM W base g2 room s2 L2 w := h.symm.tm1
theorem TT.step (h : TT W base g1 g2 room s1 s2 L1 L2 w) (hb : Below w.heap.size w w') : TT W base g1 g2 room s1 s2 L1 L2 w' := by
  have hbs := h.tm1.bs
  obtain ⟨A1, n1, c1, A2, n2, c2, T1, T2, hg, hr, I1, I2, hB, hW⟩ := h
  exact ⟨A1, n1, c1, A2, n2, c2, T1.step hb, T2.step hb, hg, hr, I1, I2, hB.trans (hb.mono hbs), hW⟩
theorem TT.drew (h : TT W base g1 g2 room s1 s2 L1 L2 w) : TT W base g1 g2 room s1 s2 L1 L2 w.drew := h.step (bdrew (Below.refl _ _))
theorem TT.alloc (h : TT W base g1 g2 room s1 s2 L1 L2 w) (o : Obj) : TT W base g1 g2 room s1 s2 L1 L2 (w.alloc o) := h.step (balloc (Below.refl _ _) _)
theorem tt_add1 (nm : ByteArray) (by_ : Nat) (hby : by_ < 18446744073709551616) (hnm : nm.size ≤ 140737488355328) (h : TT W base g1 g2 room s1 s2 L1 L2 w) :
    Calls Tryz.prog 61 #[.pointer (some ⟨g1, 0, none⟩), .string nm, .int .u64 by_] w fun e w' => e = .returned (.int .i64 (addE s1 nm by_)) ∧ TT W base g1 g2 room (stepS s1 nm by_) s2 (stepT room s1 L1 nm by_) L2 w' := by
  have hbs := h.tm1.bs
  obtain ⟨A1, n1, c1, A2, n2, c2, T1, T2, hg, hr, I1, I2, B, hW⟩ := h
  refine (add_call base g1 room s1 A1 n1 c1 L1 nm by_ hby hnm w T1 I1).mono ?_
  rintro e w1 ⟨rfl, A', n', c', T', hO, hN⟩
  have hfar1 := T2.its.far T1.blk (by decide)
  have hfar2 := T1.its.far T2.blk (by decide)
  have hrow2 : ∀ q, Value.ownBlock (.slice A2 n2 c2) = some q → ¬ mine g1 (.slice A1 n1 c1) q := by
    rintro q hq (h1 | h1)
    · subst h1; exact hfar1 hq.symm
    · exact hr q h1.symm hq
  have T2' : Tp w1 base g2 room s2 A2 n2 c2 L2 := by
    refine ⟨hO.blk T2.blk ?_, ?_, T2.g0, T2.rm, T2.ln, T2.sn, T2.bd⟩
    · rintro (h1 | h1)
      · exact hg h1.symm
      · exact hfar2 h1
    · refine ⟨⟨T2.its.own.1, ?_⟩⟩
      rcases T2.its.own.2 with h0 | ⟨q, cap, cur, hv, hq0, hq, rest⟩
      · exact .inl h0
      · refine .inr ⟨q, cap, cur, hv, hq0, ?_, rest⟩
        rw [hO.block q (by rcases Nat.lt_or_ge q w.heap.size with h3 | h3; exact h3; rw [Array.getElem?_eq_none h3] at hq; cases hq) (hrow2 q (by rw [hv]; rfl))]
        exact hq
  refine ⟨rfl, A', n', c', A2, n2, c2, T', T2', hg, ?_, I1.step T1.rm.1 nm by_, I2, hO.below B hbs ?_, hW⟩
  · intro q h1 h2
    rcases hN with h | ⟨q2, h, hq2⟩
    · rw [h] at h1; exact hr q h1 h2
    · rw [h] at h1
      injection h1 with h1
      have := (T2.its.own.lt q h2).2
      omega
  · rintro i hi (rfl | h2)
    · have := T1.g0; omega
    · have := (T1.its.own.lt i h2.symm).1; omega
theorem tt_add2 (nm : ByteArray) (by_ : Nat) (hby : by_ < 18446744073709551616) (hnm : nm.size ≤ 140737488355328) (h : TT W base g1 g2 room s1 s2 L1 L2 w) :
    Calls Tryz.prog 61 #[.pointer (some ⟨g2, 0, none⟩), .string nm, .int .u64 by_] w fun e w' => e = .returned (.int .i64 (addE s2 nm by_)) ∧ TT W base g1 g2 room s1 (stepS s2 nm by_) L1 (stepT room s2 L2 nm by_) w' := by
  refine (tt_add1 nm by_ hby hnm h.symm).mono ?_
  rintro e w1 ⟨rfl, h1⟩
  exact ⟨rfl, h1.symm⟩
/-- Of what a top told there is another top beside it. -/
theorem tt_of {b0 : Nat} {A : Option Addr} {n c : Nat} {s : List It} (h : TM W base g1 room s1 L1 w) (I : Its w b0 A n c s) (hT : Told L1 s) (hR : RightP room s1 s) :
    Calls Tryz.prog 47 #[.int .i64 room, .int .u64 s1, .slice A n c] w fun e w' => e = .returned (.tuple #[.pointer (some ⟨w.heap.size, 0, none⟩), .int .i64 0]) ∧ TT W base g1 w.heap.size room s1 s1 L1 s w' ∧ Below w.heap.size w w' := by
  have hbs := h.bs
  have hlt := h.lt
  obtain ⟨A1, n1, c1, T1, I1, B, hW⟩ := h
  refine (of_yes base b0 room s1 A n c s w hbs T1.rm I hR).mono ?_
  rintro e w1 ⟨⟨A', c', rfl, T2, hq⟩, hb⟩
  refine ⟨rfl, ⟨A1, n1, c1, A', n, c', T1.step hb, T2, by omega, ?_, I1, ⟨hR.sum, hT.nodup I1.nd, hR.len, hR.sn⟩, B.trans (hb.mono hbs), hW⟩, hb⟩
  intro q h1 h2
  have := hq q h2
  have := (T1.its.own.lt q h1).2
  omega
end
end Go.Proofs.YtapiehddcdnadaaGreatDoor
namespace Go.Proofs.YtapiehddcdnadaaGreatDoor
open Go.RowKit
set_option linter.unusedVariables false
set_option linter.unusedSimpArgs false
attribute [local go_sem high] eqI
theorem neqI (x : ByteArray) (a b : Int) (w : World) : (binOp .neq 75 (.agg #[.string x, .int .u64 a, .int .u64 b]) (.agg #[.string x, .int .u64 a, .int .u64 b])).run Tryz.prog w = .ok (.bool false) w := by
  go_simp

end Go.Proofs.YtapiehddcdnadaaGreatDoor
namespace Go.Proofs.YtapiehddcdnadaaGreatDoor
open Go.RowKit
set_option linter.unusedVariables false
set_option linter.unusedSimpArgs false

/-- The row of items at A. -/
structure RIts (w : World) (base : Nat) (A : Option Addr) (n c : Nat) (l : List It) : Prop where
  own : w.ownsRow base 109 3 (.slice A n c) n (flat l)

section
variable {w w' : World} {base : Nat} {A : Option Addr} {n c : Nat} {l : List It}
theorem RIts.len (h : RIts w base A n c l) : l.length = n := by
  have := h.own.1
  rw [flat_len] at this
  omega
theorem RIts.nil : RIts w base none 0 0 [] := ⟨World.ownsRow_nil w base _ 3⟩
theorem RIts.row (h : RIts w base A n c l) (hn : 0 < n) : ∃ g, A = some ⟨g, 0, none⟩ ∧ base ≤ g ∧ g < w.heap.size ∧ n ≤ c ∧ ∀ i, i < n → w.cell? ⟨g, i * 3, none⟩ = some (.string (l.getD i default).name) ∧ w.cell? ⟨g, i * 3 + 1, none⟩ = some (.int .u64 (l.getD i default).many) ∧ w.cell? ⟨g, i * 3 + 2, none⟩ = some (.int .u64 (l.getD i default).over) := by
  have hl := h.len
  rcases h.own.2 with ⟨e1, e2⟩ | ⟨g, cap, cur, e1, hb, hg, hnc, hcm, hcs, ht⟩
  · omega
  · injection e1 with h0 h1 h2
    subst h0
    have hc := h.own.cells (g := g) rfl
    have hx := fun i (hi : i < n) j (hj : j < 3) => hc (i * 3 + j)
    refine ⟨g, rfl, hb, ?_, by omega, fun i hi => ⟨?_, ?_, ?_⟩⟩
    · rcases Nat.lt_or_ge g w.heap.size with h3 | h3
      · exact h3
      · rw [Array.getElem?_eq_none h3] at hg; cases hg
    · have := hc (i * 3 + 0) _ ((flat_get l i 0 (by omega) (by omega)).trans rfl)
      rw [addr_add] at this
      simpa using this
    · have := hc (i * 3 + 1) _ ((flat_get l i 1 (by omega) (by omega)).trans rfl)
      rw [addr_add] at this
      simpa using this
    · have := hc (i * 3 + 2) _ ((flat_get l i 2 (by omega) (by omega)).trans rfl)
      rw [addr_add] at this
      simpa using this
end

/-- A block of another element type is not the row. -/
theorem RIts.far {w : World} {base : Nat} {A : Option Addr} {n c : Nat} {l : List It} (h : RIts w base A n c l) {g : Nat} {t : TypeId} {cs : Array Value} (B : Blk w g t cs) (ht : t ≠ 109) : some g ≠ Value.ownBlock (.slice A n c) := by
  rcases h.own.2 with ⟨e1, _⟩ | ⟨r, cap, cur, e1, _, hg, _⟩ <;> rw [e1]
  · simp [Value.ownBlock]
  · intro e
    simp [Value.ownBlock] at e
    subst e
    unfold Blk at B
    rw [hg] at B
    injection B with B
    injection B with _ h2
    exact ht h2.symm

/-- The top at g. -/
structure Rp (w : World) (base g : Nat) (room seen : Nat) (A : Option Addr) (n c : Nat) (l : List It) : Prop where
  blk : Blk w g 54 #[.slice A n c, .int .i64 room, .int .u64 seen]
  its : RIts w base A n c l
  g0 : base ≤ g
  rm : 1 ≤ room ∧ room ≤ 16
  ln : n ≤ room
  sn : seen ≤ 4611686018427387904
  bd : ∀ x ∈ l, x.many ≤ 4611686018427387904 ∧ x.over ≤ 4611686018427387904


theorem Rp.seen' {w : World} {base g room seen : Nat} {A : Option Addr} {n c : Nat} {l : List It} (T : Rp w base g room seen A n c l) (s : Nat) (hs : s ≤ 4611686018427387904) :
    Rp (w.setCell ⟨g, 2, none⟩ (.int .u64 s)) base g room s A n c l ∧ Only w (w.setCell ⟨g, 2, none⟩ (.int .u64 s)) (fun i => i = g) := by
  have hg : w.grownBy (w.setCell ⟨g, 2, none⟩ (.int .u64 s)) (some g) := only_setCell (only_refl _ _) (.inl rfl) _
  refine ⟨⟨T.blk.put 2 _, ⟨T.its.own.kept hg (.inr (fun e => T.its.far T.blk (by decide) e.symm))⟩, T.g0, T.rm, T.ln, hs, T.bd⟩, ?_⟩
  exact Only.of_grown hg (fun i hi => by cases hi; rfl)
theorem Rp.many' {w : World} {base g room seen r : Nat} {n c : Nat} {l : List It} (T : Rp w base g room seen (some ⟨r, 0, none⟩) n c l) (k : Nat) (hk : k < n) (v : Nat) (hv : v ≤ 4611686018427387904) :
    Rp (w.setCell ⟨r, k * 3 + 1, none⟩ (.int .u64 v)) base g room seen (some ⟨r, 0, none⟩) n c (l.set k ⟨(l.getD k default).name, v, (l.getD k default).over⟩) ∧ Only w (w.setCell ⟨r, k * 3 + 1, none⟩ (.int .u64 v)) (fun i => i = r) := by
  have hln := T.its.len
  obtain ⟨o, hg⟩ := T.its.own.stored (k * 3 + 1) (.int .u64 v)
  refine ⟨⟨T.blk.grown hg (by simpa [Value.ownBlock] using T.its.far T.blk (by decide)), ⟨by rw [← flat_many l k v (by omega)]; exact o⟩, T.g0, T.rm, T.ln, T.sn, ?_⟩, Only.of_grown hg (fun i hi => by cases hi; rfl)⟩
  intro x hx
  rcases mem_set_it (by omega) hx with rfl | ⟨q, hq, _, rfl⟩
  · refine ⟨hv, ?_⟩
    rw [it_get l k (by omega)]
    exact (T.bd _ (List.getElem_mem _)).2
  · exact T.bd _ (List.getElem_mem _)


theorem RIts.step {w w' : World} {base : Nat} {A : Option Addr} {n c : Nat} {l : List It} (h : RIts w base A n c l) (hb : Below w.heap.size w w') : RIts w' base A n c l :=
  ⟨h.own.kept (only_of_below hb none) (by rcases Value.ownBlock (.slice A n c) with _ | z; exact .inl rfl; exact .inr (by simp))⟩

end Go.Proofs.YtapiehddcdnadaaGreatDoor

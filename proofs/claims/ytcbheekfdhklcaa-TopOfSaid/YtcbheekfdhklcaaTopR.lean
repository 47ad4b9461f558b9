/- right: may items be told? -/
import Derived.Test.YtcbheekfdhklcaaTopRa
namespace Go.Proofs.Ytcbheekfdhklcaa
open Go.RowKit
set_option linter.unusedVariables false
set_option linter.unusedSimpArgs false

set_option maxRecDepth 100000 in
set_option maxHeartbeats 4000000 in
theorem right_call (room seen : Nat) (A : Option Addr) (n c : Nat) (l : List It) (w : World) (R : ItRow w A n l) (hnc : n ≤ c) (hn : n ≤ 140737488351232) (hroom : room ≤ 16) (hs : seen < 18446744073709551616) (hbd : ∀ x ∈ l, x.many < 18446744073709551616 ∧ x.over < 18446744073709551616 ∧ x.name.size ≤ 9223372036854775807) :
    Calls Try.prog 36 #[.int .i64 room, .int .u64 seen, .slice A n c] w fun e w' => Answers (RightP room seen l) e ∧ Below w.heap.size w w' := by
  have hln := R.len
  by_cases h1 : n ≤ room
  rotate_left
  · have h1' : (room : Int) < n := by omega
    have hno : ¬ RightP room seen l := fun h => h1 (by rw [← hln]; exact h.len)
    have HN := Lib.hid hno
    clear hno
    go_enter Try.func36, Try.ntmps36
    go_wp2_with fail
    go_ret
    exact ⟨answers_no HN.out, Below.refl _ _⟩
  have h1' : ¬ (room : Int) < n := by omega
  by_cases h2 : seen ≤ 4611686018427387904
  rotate_left
  · have h2' : (4611686018427387904 : Int) < seen := by omega
    have hno : ¬ RightP room seen l := fun h => h2 h.sn
    have HN := Lib.hid hno
    clear hno
    go_enter Try.func36, Try.ntmps36
    go_wp2_with fail
    go_ret
    exact ⟨answers_no HN.out, Below.refl _ _⟩
  have h2' : ¬ (4611686018427387904 : Int) < seen := by omega
  go_enter Try.func36, Try.ntmps36
  go_wp2_with fail
  go_loopw [7, 22] (fun left i wr => ∃ j : Nat, j ≤ n ∧ left = .int .u64 ((seen - sumQ l j : Nat) : Int) ∧ i = .int .i64 j ∧ Below w.heap.size w wr ∧ Hid (∀ k, k < j → OkAt room l (seen - sumQ l k) k) ∧ sumQ l j ≤ seen) (fun _ i _ => n - (intOf i).toNat)
  case atStart => exact ⟨0, Nat.zero_le _, rfl, rfl, Below.refl _ _, Lib.hid (fun k h => by omega), Nat.zero_le _⟩
  case round =>
    obtain ⟨j, hj, rfl, rfl, hB, HO, hsq⟩ := hrel
    by_cases hjn : j < n
    · obtain ⟨b, off, rfl, hbl, hcell⟩ := R.at_ (by omega)
      have Rr := R.step hB
      obtain ⟨x0, x1, x2⟩ := hcell j hjn
      obtain ⟨m1, hm1⟩ : ∃ m1, n = m1 + 1 := ⟨n - 1, by omega⟩
      have z1 := (hcell m1 (by omega)).2.1
      have hno : Hid (¬ OkAt room l (seen - sumQ l j) j → ¬ RightP room seen l) := Lib.hid (fun h hR => h (hR.ok j (by omega)))
      have hO : Hid (∀ left, OkAt room l left j ↔ twice l j = false ∧ (l.getD j default).name.size ≤ 64 ∧ (l.getD j default).over < (l.getD j default).many ∧ (l.getD j default).many ≤ left ∧ (l.getD j default).over ≤ (l.getD m1 default).many ∧ ((l.getD j default).over = 0 ∨ ¬ n < room) ∧ (j = 0 ∨ ahead (l.getD (j - 1) default) (l.getD j default) = true)) := Lib.hid (fun left => by
        have e1 : l.length - 1 = m1 := by omega
        constructor
        · rintro ⟨a1, a2, a3, a4, a5, a6, a7⟩
          rw [e1] at a5
          rw [hln] at a6
          exact ⟨a1, a2, a3, a4, a5, a6, a7⟩
        · rintro ⟨a1, a2, a3, a4, a5, a6, a7⟩
          exact ⟨a1, a2, a3, a4, by rw [e1]; exact a5, by rw [hln]; exact a6, a7⟩)
      have hsn := sumQ_succ l j (by omega)
      have hbx := hbd (l.getD j default) (by rw [it_get l j (by omega)]; exact List.getElem_mem _)
      have hbz := hbd (l.getD m1 default) (by rw [it_get l m1 (by omega)]; exact List.getElem_mem _)
      have y0 : 0 < j → w.cell? ⟨b, off + (j - 1) * 3, none⟩ = some (.string (l.getD (j - 1) default).name) ∧ w.cell? ⟨b, off + (j - 1) * 3 + 1, none⟩ = some (.int .u64 (l.getD (j - 1) default).many) ∧ w.cell? ⟨b, off + (j - 1) * 3 + 2, none⟩ = some (.int .u64 (l.getD (j - 1) default).over) := fun h => hcell (j - 1) (by omega)
      have e0 := (hB.cell (p := ⟨b, off + j * 3, none⟩) hbl).trans x0
      have e1 := (hB.cell (p := ⟨b, off + j * 3 + 1, none⟩) hbl).trans x1
      have e2 := (hB.cell (p := ⟨b, off + j * 3 + 2, none⟩) hbl).trans x2
      have hbw : b < wr.heap.size := Nat.lt_of_lt_of_le hbl hB.size
      have htw : Hid (((l.take j).any fun y => y.name.toList == (l.getD j default).name.toList) = twice l j) := Lib.hid rfl
      have q1 : ((n : Int) - 1) = (m1 : Int) := by omega
      have q2 : (m1 : Int) < n := by omega
      have HM1 := Lib.hid hm1
      clear hcell x0 x1 x2 hm1
      generalize hX : l.getD j default = X at *
      generalize hZ : (l.getD m1 default).many = zm at *
      generalize hSQ : sumQ l j = sq at *
      have HSQ := Lib.hid hSQ
      clear hSQ
      have j1 : (j : Int) < n := by omega
      go_upto_region 7 with fail
      have hb6 : Below w.heap.size w (wr.alloc (.cells #[.string X.name, .int .u64 X.many, .int .u64 X.over] 35)) := balloc hB _
      have X6 := Blk.new wr 35 #[.string X.name, .int .u64 X.many, .int .u64 X.over]
      generalize (wr.alloc (.cells #[.string X.name, .int .u64 X.many, .int .u64 X.over] 35)) = w6 at *
      generalize wr.heap.size = xb at *
      have k0 : w6.cell? ⟨xb, 0, none⟩ = some (.string X.name) := X6.cellAt 0 rfl
      have R6 := R.step hb6
      have HX := Lib.hid hX
      clear e0 e1 e2 hX
      have j2 : (j : Int) ≤ c := by omega
      go_upto_region 8 with (go_at_call 42; refine (contains_call X xb w6 k0 X6.lt b off n c j l hj (by omega) R6 (by omega)).mono ?_; rintro e w7 ⟨rfl, hb7⟩; rw [htw.out])
      have X7 := Blk.step hb7 X6
      have hb8 : Below w.heap.size w w7 := bstep hb7 hb6
      have z7 := (hb8.cell (p := ⟨b, off + m1 * 3 + 1, none⟩) hbl).trans z1
      have l7 := X7.lt
      have lb7 : b < w7.heap.size := Nat.lt_of_lt_of_le hbl hb8.size
      have p0 : w7.cell? ⟨xb, 0, none⟩ = some (.string X.name) := X7.cellAt 0 rfl
      have p1 : w7.cell? ⟨xb, 1, none⟩ = some (.int .u64 X.many) := X7.cellAt 1 rfl
      have p2 : w7.cell? ⟨xb, 2, none⟩ = some (.int .u64 X.over) := X7.cellAt 2 rfl
      have y7 : 0 < j → w7.cell? ⟨b, off + (j - 1) * 3, none⟩ = some (.string (l.getD (j - 1) default).name) ∧ w7.cell? ⟨b, off + (j - 1) * 3 + 1, none⟩ = some (.int .u64 (l.getD (j - 1) default).many) ∧ w7.cell? ⟨b, off + (j - 1) * 3 + 2, none⟩ = some (.int .u64 (l.getD (j - 1) default).over) := fun h =>
        ⟨(hb8.cell (p := ⟨b, off + (j - 1) * 3, none⟩) hbl).trans (y0 h).1, (hb8.cell (p := ⟨b, off + (j - 1) * 3 + 1, none⟩) hbl).trans (y0 h).2.1, (hb8.cell (p := ⟨b, off + (j - 1) * 3 + 2, none⟩) hbl).trans (y0 h).2.2⟩
      have q3 : IntKind.i64.wrap (m1 : Int) = (m1 : Int) := by rw [IntKind.wrap_i64]; omega
      have HSN := Lib.hid hsn
      clear k0 X6 R6 hb6 hb7 hsn R hbw Rr
      cases htv : twice l j
      rotate_left
      · have hN := hno.out (fun h => by have := ((hO.out _).1 h).1; rw [htv] at this; cases this)
        have HN := Lib.hid hN
        clear hN
        go_wp2_with fail
        go_ret
        exact ⟨answers_no HN.out, hb8⟩
      by_cases g1 : X.name.size ≤ 64
      rotate_left
      · have hN := hno.out (fun h => g1 ((hO.out _).1 h).2.1)
        have HN := Lib.hid hN
        clear hN
        have g1' : (64 : Int) < X.name.size := by omega
        go_wp2_with fail
        go_ret
        exact ⟨answers_no HN.out, hb8⟩
      have g1' : ¬ (64 : Int) < X.name.size := by omega
      by_cases g2 : X.over < X.many
      rotate_left
      · have hN := hno.out (fun h => g2 ((hO.out _).1 h).2.2.1)
        have HN := Lib.hid hN
        clear hN
        have g2' : (X.many : Int) ≤ X.over := by omega
        go_wp2_with fail
        go_ret
        exact ⟨answers_no HN.out, hb8⟩
      have g2' : ¬ (X.many : Int) ≤ X.over := by omega
      obtain ⟨left, hleft⟩ : ∃ left, seen - sq = left := ⟨_, rfl⟩
      rw [hleft] at hno ⊢
      have HLE := Lib.hid hleft
      clear hleft
      by_cases g3 : X.many ≤ left
      rotate_left
      · have hN := hno.out (fun h => g3 ((hO.out _).1 h).2.2.2.1)
        have HN := Lib.hid hN
        clear hN
        have g3' : (left : Int) < X.many := by omega
        go_wp2_with fail
        go_ret
        exact ⟨answers_no HN.out, hb8⟩
      have g3' : ¬ (left : Int) < X.many := by omega
      by_cases g4 : X.over ≤ zm
      rotate_left
      · have hN := hno.out (fun h => g4 ((hO.out _).1 h).2.2.2.2.1)
        have HN := Lib.hid hN
        clear hN
        have g4' : (zm : Int) < X.over := by omega
        go_upto_region 10 with fail
        go_quiet (fail)
        have hb9 : Below w.heap.size w (w7.drewN nq) := bdrewN hb8 _
        go_wp2_with fail
        go_ret
        exact ⟨answers_no HN.out, hb9⟩
      have g4' : ¬ (zm : Int) < X.over := by omega
      by_cases g5 : X.over = 0 ∨ ¬ n < room
      rotate_left
      · have hN := hno.out (fun h => g5 ((hO.out _).1 h).2.2.2.2.2.1)
        have HN := Lib.hid hN
        clear hN
        rw [not_or] at g5
        have g5' : (0 : Int) < X.over := by omega
        have g5'' : (n : Int) < room := by omega
        have g5n : 0 < X.over := by omega
        clear g5
        go_upto_region 10 with fail
        go_quiet (fail)
        have hb9 : Below w.heap.size w (w7.drewN nq) := bdrewN hb8 _
        go_wp2_with fail
        go_ret
        exact ⟨answers_no HN.out, hb9⟩
      have hOK : Hid ((j = 0 ∨ ahead (l.getD (j - 1) default) X = true) → OkAt room l left j) := Lib.hid (fun h => (hO.out _).2 ⟨htv, g1, g2, g3, g4, g5, h⟩)
      have w1 : IntKind.u64.wrap ((left : Int) - X.many) = ((seen - sumQ l (j + 1) : Nat) : Int) := by
        have hleft := HLE.out
        have e : seen - sumQ l (j + 1) = left - X.many := by rw [HSN.out, ← hleft]; exact Nat.sub_add_eq _ _ _
        rw [e]
        exact wrap_sub left X.many g3 (Nat.lt_of_le_of_lt (by rw [← hleft]; exact Nat.sub_le _ _) hs)
      have hsq1 : sumQ l (j + 1) ≤ seen := by
        have hleft := HLE.out
        have h := g3
        rw [← hleft] at h
        rw [HSN.out]
        exact add_le_of _ _ _ h hsq
      generalize hs1 : sumQ l (j + 1) = sq1 at *
      have HS1 := Lib.hid hs1
      clear hs1
      by_cases hj0 : j = 0
      · have j3 : ¬ (0 : Int) < j := by omega
        have j4 : ¬ 0 < j := by omega
        have hok := Lib.hid (hOK.out (.inl hj0))
        clear hj0 y7 y0
        rcases g5 with g5 | g5
        · have g5' : ¬ (0 : Int) < X.over := by omega
          have g5n : ¬ 0 < X.over := by omega
          clear g5
          go_upto_region 10 with fail
          go_quiet (fail)
          have hb9 : Below w.heap.size w (w7.drewN nq) := bdrewN hb8 _
          go_wp2_with fail
          refine ⟨⟨j + 1, by omega, by rw [HS1.out], by go_num, hb9, Lib.hid (fun k hk => ?_), by rw [HS1.out]; exact hsq1⟩, by simp [intOf]; omega⟩
          rcases Nat.lt_or_ge k j with h | h
          · exact HO.out k h
          · have e : k = j := by omega
            rw [e, HSQ.out, HLE.out]
            exact hok.out
        · have g5' : ¬ (n : Int) < room := by omega
          by_cases g6 : 0 < X.over
          · have g6' : (0 : Int) < X.over := by omega
            go_upto_region 10 with fail
            go_quiet (fail)
            have hb9 : Below w.heap.size w (w7.drewN nq) := bdrewN hb8 _
            go_wp2_with fail
            refine ⟨⟨j + 1, by omega, by rw [HS1.out], by go_num, hb9, Lib.hid (fun k hk => ?_), by rw [HS1.out]; exact hsq1⟩, by simp [intOf]; omega⟩
            rcases Nat.lt_or_ge k j with h | h
            · exact HO.out k h
            · have e : k = j := by omega
              rw [e, HSQ.out, HLE.out]
              exact hok.out
          · have g6' : ¬ (0 : Int) < X.over := by omega
            go_upto_region 10 with fail
            go_quiet (fail)
            have hb9 : Below w.heap.size w (w7.drewN nq) := bdrewN hb8 _
            go_wp2_with fail
            refine ⟨⟨j + 1, by omega, by rw [HS1.out], by go_num, hb9, Lib.hid (fun k hk => ?_), by rw [HS1.out]; exact hsq1⟩, by simp [intOf]; omega⟩
            rcases Nat.lt_or_ge k j with h | h
            · exact HO.out k h
            · have e : k = j := by omega
              rw [e, HSQ.out, HLE.out]
              exact hok.out
      · obtain ⟨pj, hpj⟩ : ∃ pj, j = pj + 1 := ⟨j - 1, by omega⟩
        have hjp : j - 1 = pj := by omega
        have y8 := y7 (by omega)
        rw [hjp] at y8 hOK hO
        have q4 : ((j : Int) - 1) = (pj : Int) := by omega
        have q5 : (pj : Int) < n := by omega
        have q6 : IntKind.i64.wrap (pj : Int) = (pj : Int) := by rw [IntKind.wrap_i64]; omega
        have j3 : (0 : Int) < j := by omega
        have j4 : 0 < j := by omega
        generalize l.getD pj default = P at *
        have hcmp := fun W => order_call P X W
        clear hpj hjp y7 y0
        have hcl : decide (cmpI P X < 0) = ahead P X := cmpI_lt P X
        generalize cmpI P X = cm at *
        obtain ⟨bb, hbb⟩ : ∃ bb, decide (0 ≤ cm) = bb := ⟨_, rfl⟩
        have hah : ahead P X = !bb := by
          rw [← hcl, ← hbb]
          by_cases h : cm < 0
          · have h2 : ¬ 0 ≤ cm := by omega
            simp [h, h2]
          · have h2 : 0 ≤ cm := by omega
            simp [h, h2]
        have HAH := Lib.hid hah
        have HCM := Lib.hid hcmp
        clear hcmp hbd hbx hbz z1 hcl hah
        rcases Nat.eq_zero_or_pos X.over with g6 | g6
        · have g5' : ¬ (0 : Int) < X.over := by omega
          have g5n : ¬ 0 < X.over := by omega
          clear g5 g6
          go_upto_region 10 with fail
          refine wp_region_still_tail 31 (by kernel_rfl) (by kernel_rfl) ?_
          have hb8' := bdrew hb8
          have X8 := X7.drew
          have y81 : w7.drew.cell? ⟨b, off + pj * 3, none⟩ = some (.string P.name) := y8.1
          have y82 : w7.drew.cell? ⟨b, off + pj * 3 + 1, none⟩ = some (.int .u64 P.many) := y8.2.1
          have y83 : w7.drew.cell? ⟨b, off + pj * 3 + 2, none⟩ = some (.int .u64 P.over) := y8.2.2
          have z8 : w7.drew.cell? ⟨b, off + m1 * 3 + 1, none⟩ = some (.int .u64 zm) := z7
          have p0' : w7.drew.cell? ⟨xb, 0, none⟩ = some (.string X.name) := p0
          have p1' : w7.drew.cell? ⟨xb, 1, none⟩ = some (.int .u64 X.many) := p1
          have p2' : w7.drew.cell? ⟨xb, 2, none⟩ = some (.int .u64 X.over) := p2
          have l8 : xb < w7.drew.heap.size := l7
          have lb8 : b < w7.drew.heap.size := lb7
          clear y8 z7 p0 p1 p2 l7 lb7 X7 hb8
          change wpStill _ _ w7.drew _ _ _
          generalize hw9 : w7.drew = w9 at *
          have HW9 := Lib.hid hw9
          clear hw9
          simp only [List.take_succ_cons, List.take_zero, List.drop_succ_cons, List.drop_zero]
          refine still_gen (fun KK hKK => ?_)
          repeat still_step
          refine wpStill_nil ?_
          refine hKK.out _ ?_
          clear hKK KK
          have hw9 := HW9.out
          clear HW9
          subst hw9
          change wpList _ _ _ _ _ w7.drew
          go_wp2_with (first | (go_at_call 30; refine (HCM.out _).mono ?_; rintro e wA ⟨rfl, hL⟩; have hb9 := bstep hL.below hb8'; have X9 := Blk.step hL.below X8; have p9 : wA.cell? ⟨xb, 1, none⟩ = some (.int .u64 X.many) := X9.cellAt 1 rfl; have l9 := X9.lt; clear hL))
          all_goals (rename_i hbv; have hah := HAH.out; rw [hbv] at hah)
          all_goals first
            | (go_ret
               refine ⟨answers_no (hno.out (fun h => ?_)), hb9⟩
               have h2 := ((hO.out _).1 h).2.2.2.2.2.2
               rcases h2 with h2 | h2
               · exact hj0 h2
               · rw [hah] at h2; simp at h2)
            | (refine ⟨⟨j + 1, by omega, by rw [HS1.out], by go_num, hb9, Lib.hid (fun k hk => ?_), by rw [HS1.out]; exact hsq1⟩, by simp [intOf]; omega⟩
               rcases Nat.lt_or_ge k j with h | h
               · exact HO.out k h
               · have e : k = j := by omega
                 rw [e, HSQ.out, HLE.out]
                 exact hOK.out (.inr (by simpa using hah)))
        · have g6' : (0 : Int) < X.over := by omega
          have g7 : ¬ n < room := by rcases g5 with h | h; omega; exact h
          have g7' : ¬ (n : Int) < room := by omega
          clear g5
          go_upto_region 10 with fail
          refine wp_region_still_tail 31 (by kernel_rfl) (by kernel_rfl) ?_
          have hb8' := bdrew hb8
          have X8 := X7.drew
          have y81 : w7.drew.cell? ⟨b, off + pj * 3, none⟩ = some (.string P.name) := y8.1
          have y82 : w7.drew.cell? ⟨b, off + pj * 3 + 1, none⟩ = some (.int .u64 P.many) := y8.2.1
          have y83 : w7.drew.cell? ⟨b, off + pj * 3 + 2, none⟩ = some (.int .u64 P.over) := y8.2.2
          have z8 : w7.drew.cell? ⟨b, off + m1 * 3 + 1, none⟩ = some (.int .u64 zm) := z7
          have p0' : w7.drew.cell? ⟨xb, 0, none⟩ = some (.string X.name) := p0
          have p1' : w7.drew.cell? ⟨xb, 1, none⟩ = some (.int .u64 X.many) := p1
          have p2' : w7.drew.cell? ⟨xb, 2, none⟩ = some (.int .u64 X.over) := p2
          have l8 : xb < w7.drew.heap.size := l7
          have lb8 : b < w7.drew.heap.size := lb7
          clear y8 z7 p0 p1 p2 l7 lb7 X7 hb8
          change wpStill _ _ w7.drew _ _ _
          generalize hw9 : w7.drew = w9 at *
          have HW9 := Lib.hid hw9
          clear hw9
          simp only [List.take_succ_cons, List.take_zero, List.drop_succ_cons, List.drop_zero]
          refine still_gen (fun KK hKK => ?_)
          repeat still_step
          refine wpStill_nil ?_
          refine hKK.out _ ?_
          clear hKK KK
          have hw9 := HW9.out
          clear HW9
          subst hw9
          change wpList _ _ _ _ _ w7.drew
          go_wp2_with (first | (go_at_call 30; refine (HCM.out _).mono ?_; rintro e wA ⟨rfl, hL⟩; have hb9 := bstep hL.below hb8'; have X9 := Blk.step hL.below X8; have p9 : wA.cell? ⟨xb, 1, none⟩ = some (.int .u64 X.many) := X9.cellAt 1 rfl; have l9 := X9.lt; clear hL))
          all_goals (rename_i hbv; have hah := HAH.out; rw [hbv] at hah)
          all_goals first
            | (go_ret
               refine ⟨answers_no (hno.out (fun h => ?_)), hb9⟩
               have h2 := ((hO.out _).1 h).2.2.2.2.2.2
               rcases h2 with h2 | h2
               · exact hj0 h2
               · rw [hah] at h2; simp at h2)
            | (refine ⟨⟨j + 1, by omega, by rw [HS1.out], by go_num, hb9, Lib.hid (fun k hk => ?_), by rw [HS1.out]; exact hsq1⟩, by simp [intOf]; omega⟩
               rcases Nat.lt_or_ge k j with h | h
               · exact HO.out k h
               · have e : k = j := by omega
                 rw [e, HSQ.out, HLE.out]
                 exact hOK.out (.inr (by simpa using hah)))
    · have e : j = n := by omega
      have hsa := sumQ_all l j (by omega)
      rw [hsa] at hsq ⊢
      have j1 : ¬ (j : Int) < n := by omega
      by_cases hz : seen - (l.map (·.many)).sum = 0
      · have hR : RightP room seen l := ⟨by rw [hln]; exact h1, h2, fun k hk => HO.out k (by omega), by omega⟩
        have HR := Lib.hid hR
        rw [hz]
        clear hR hz e hsa
        go_wp2_with fail
        go_ret
        exact ⟨answers_yes HR.out, hB⟩
      · have hR : ¬ RightP room seen l := fun h => hz (by have := h.sum; omega)
        have HR := Lib.hid hR
        generalize seen - (l.map (·.many)).sum = left at *
        have hz1 : ((left : Int) == 0) = false := by simp; omega
        clear hR e hsa
        go_wp2_with fail
        go_ret
        exact ⟨answers_no HR.out, hB⟩
end Go.Proofs.Ytcbheekfdhklcaa

/- The reference's Of. -/
import Derived.Test.YtapiehddcdnadaaGreatDoorM12
namespace Go.Proofs.YtapiehddcdnadaaGreatDoor
open Go.RowKit
set_option linter.unusedVariables false
set_option linter.unusedSimpArgs false

/-- What the document asks of the item at k. -/
structure RK (room : Nat) (l : List It) (k : Nat) : Prop where
  one : twice l k = false
  nm : (l.getD k default).name.size ≤ 64
  ov : (l.getD k default).over < (l.getD k default).many
  last : (l.getD k default).over ≤ (l.getD (l.length - 1) default).many
  full : (l.getD k default).over = 0 ∨ ¬ l.length < room
  ord : k = 0 ∨ ahead (l.getD (k - 1) default) (l.getD k default) = true
theorem right_iff {room seen : Nat} {l : List It} : RightP room seen l ↔ l.length ≤ room ∧ seen ≤ 4611686018427387904 ∧ (∀ k, k < l.length → RK room l k) ∧ (l.map (·.many)).sum = seen := by
  constructor
  · intro h
    exact ⟨h.len, h.sn, fun k hk => ⟨(h.ok k hk).one, (h.ok k hk).nm, (h.ok k hk).ov, (h.ok k hk).last, (h.ok k hk).full, (h.ok k hk).ord⟩, h.sum⟩
  · rintro ⟨h1, h2, h3, h4⟩
    refine ⟨h1, h2, fun k hk => ⟨(h3 k hk).one, (h3 k hk).nm, (h3 k hk).ov, ?_, (h3 k hk).last, (h3 k hk).full, (h3 k hk).ord⟩, h4⟩
    have e1 := sumQ_succ l k hk
    have e2 := sumQ_le l (k + 1)
    rw [it_get l k hk] at e1 ⊢
    rw [h4] at e2
    omega
theorem right_sum {room seen : Nat} {l : List It} (h : RightP room seen l) (j : Nat) : sumQ l j ≤ 4611686018427387904 := by
  have h1 := sumQ_le l j
  rw [h.sum] at h1
  have := h.sn
  omega
theorem right_many {room seen : Nat} {l : List It} (h : RightP room seen l) (j : Nat) (hj : j < l.length) : (l.getD j default).many ≤ 4611686018427387904 := by
  have := (h.ok j hj).le
  have := h.sn
  omega
theorem twice_no {l : List It} {j : Nat} (hj : j < l.length) (h : ∀ q, q < j → ((l.getD q default).name.toList == (l.getD j default).name.toList) = false) : twice l j = false := by
  unfold twice
  rw [List.any_eq_false]
  intro o ho he
  obtain ⟨q, hq, rfl⟩ := List.mem_iff_getElem.1 ho
  rw [List.length_take] at hq
  rw [List.getElem_take] at he
  have := h q (by omega)
  rw [it_get l q (by omega)] at this
  rw [this] at he
  cases he
theorem twice_yes {l : List It} {j q : Nat} (hj : j < l.length) (hq : q < j) (h : ((l.getD q default).name.toList == (l.getD j default).name.toList) = true) : twice l j = true := by
  unfold twice
  rw [List.any_eq_true]
  refine ⟨l[q]'(by omega), ?_, by rw [it_get l q (by omega)] at h; exact h⟩
  rw [← List.getElem_take (h := by rw [List.length_take]; omega) (j := j)]
  exact List.getElem_mem _

theorem itRow_cells {w : World} {b off n : Nat} {l : List It} (R : ItRow w (some ⟨b, off, none⟩) n l) (h0 : 0 < n) : ∀ j u, (flat l)[j]? = some u → w.cell? ((⟨b, off, none⟩ : Addr).add j) = some u := by
  intro j u hu
  have hln := R.len
  obtain ⟨b', off', hA, _, hc⟩ := R.at_ h0
  cases hA
  have hj : j < l.length * 3 := by
    rcases Nat.lt_or_ge j (flat l).length with h | h
    · rwa [flat_len] at h
    · rw [List.getElem?_eq_none h] at hu; cases hu
  obtain ⟨q, r, hr, rfl⟩ : ∃ q r, r < 3 ∧ j = q * 3 + r := ⟨j / 3, j % 3, Nat.mod_lt _ (by omega), by omega⟩
  rw [flat_get l q r (by omega) hr] at hu
  obtain ⟨x, y, z⟩ := hc q (by omega)
  rw [addr_add, ← Nat.add_assoc]
  match r, hr, hu with
  | 0, _, hu => simp [encI] at hu; rw [← hu]; exact x
  | 1, _, hu => simp [encI] at hu; rw [← hu]; exact y
  | 2, _, hu => simp [encI] at hu; rw [← hu]; exact z

/-- The reference's Of: the top, or none. -/
def ROfAns (base room seen g : Nat) (l : List It) (e : Ending) (w' : World) : Prop :=
  (RightP room seen l ∧ ∃ A' n c', e = .returned (.tuple #[.pointer (some ⟨g, 0, none⟩), .int .i64 0]) ∧ Rp w' base g room seen A' n c' l) ∨ (¬ RightP room seen l ∧ e = .returned (.tuple #[.pointer none, .int .i64 2]))
theorem rof_none (base room seen g : Nat) (l : List It) (w' : World) (h : ¬ RightP room seen l) : ROfAns base room seen g l (.returned (.tuple #[.pointer none, .int .i64 2])) w' := .inr ⟨h, rfl⟩

set_option maxRecDepth 100000 in
set_option maxHeartbeats 4000000 in
theorem rof_call (base room seen : Nat) (A : Option Addr) (n c : Nat) (l : List It) (w : World) (hb : base ≤ w.heap.size) (hrm : 1 ≤ room ∧ room ≤ 16) (R : ItRow w A n l) (hnc : n ≤ c) (hn : n ≤ 4398046511103) (hs : seen < 18446744073709551616) (hbd : ∀ x ∈ l, x.many < 18446744073709551616 ∧ x.over < 18446744073709551616 ∧ x.name.size ≤ 9223372036854775807) :
    Calls Tryz.prog 52 #[.int .i64 room, .int .u64 seen, .slice A n c] w fun e w' => ROfAns base room seen w.heap.size l e w' ∧ Below w.heap.size w w' := by
  have hln := R.len
  have hN := rnew_yes room hrm.1 hrm.2 base w hb
  have HN := Lib.hid hN
  clear hN
  by_cases h1 : n ≤ room
  rotate_left
  · have h1' : (room : Int) < n := by omega
    have hno : ¬ RightP room seen l := fun h => h1 (by rw [← hln]; exact h.len)
    have HNO := Lib.hid hno
    clear hno
    go_enter Tryz.func52, Tryz.ntmps52
    go_wp2_with (go_at_call 34; refine HN.out.mono ?_; rintro e w1 ⟨rfl, T1, b1⟩)
    go_ret2
    exact ⟨rof_none _ _ _ _ _ _ HNO.out, b1⟩
  have h1' : ¬ (room : Int) < n := by omega
  by_cases h2 : seen ≤ 4611686018427387904
  rotate_left
  · have h2' : (4611686018427387904 : Int) < seen := by omega
    have hno : ¬ RightP room seen l := fun h => h2 h.sn
    have HNO := Lib.hid hno
    clear hno
    go_enter Tryz.func52, Tryz.ntmps52
    go_wp2_with (go_at_call 34; refine HN.out.mono ?_; rintro e w1 ⟨rfl, T1, b1⟩)
    go_ret2
    exact ⟨rof_none _ _ _ _ _ _ HNO.out, b1⟩
  have h2' : ¬ (4611686018427387904 : Int) < seen := by omega
  have d1 : decide (room < n) = false := decide_eq_false (by omega)
  have d2 : decide ((4611686018427387904 : Int) < (seen : Int)) = false := decide_eq_false (by omega)
  go_enter Tryz.func52, Tryz.ntmps52
  go_wp2_with (go_at_call 34; refine HN.out.mono ?_; rintro e w1 ⟨rfl, T1, b1⟩)
  have hg0 := T1.blk.lt
  go_loopw [9, 10] (fun sum i wr => ∃ j : Nat, j ≤ n ∧ sum = .int .u64 ((sumQ l j : Nat) : Int) ∧ i = .int .i64 j ∧ Below w1.heap.size w1 wr ∧ Hid (∀ k, k < j → RK room l k) ∧ sumQ l j ≤ 4611686018427387904) (fun _ i _ => n - (intOf i).toNat)
  case atStart => exact ⟨0, Nat.zero_le _, rfl, rfl, Below.refl _ _, Lib.hid (fun k h => by omega), Nat.zero_le _⟩
  case round =>
    obtain ⟨j, hj, rfl, rfl, hB, HO, hsq⟩ := hrel
    by_cases hjn : j < n
    · obtain ⟨b, off, rfl, hbl, hcell⟩ := R.at_ (by omega)
      have hbl1 : b < w1.heap.size := Nat.lt_of_lt_of_le hbl b1.size
      obtain ⟨m1, hm1⟩ : ∃ m1, n = m1 + 1 := ⟨n - 1, by omega⟩
      have HC : Hid (∀ W, Below w1.heap.size w1 W → ∀ q, q < n → W.cell? ⟨b, off + q * 3, none⟩ = some (.string (l.getD q default).name) ∧ W.cell? ⟨b, off + q * 3 + 1, none⟩ = some (.int .u64 (l.getD q default).many) ∧ W.cell? ⟨b, off + q * 3 + 2, none⟩ = some (.int .u64 (l.getD q default).over)) := Lib.hid (fun W hW q hq => by
        obtain ⟨x, y, z⟩ := hcell q hq
        exact ⟨(hW.cell (p := ⟨b, off + q * 3, none⟩) hbl1).trans ((b1.cell (p := ⟨b, off + q * 3, none⟩) hbl).trans x), (hW.cell (p := ⟨b, off + q * 3 + 1, none⟩) hbl1).trans ((b1.cell (p := ⟨b, off + q * 3 + 1, none⟩) hbl).trans y), (hW.cell (p := ⟨b, off + q * 3 + 2, none⟩) hbl1).trans ((b1.cell (p := ⟨b, off + q * 3 + 2, none⟩) hbl).trans z)⟩)
      clear hcell
      obtain ⟨e0, e1, e2⟩ := HC.out wr hB j hjn
      have hbw : b < wr.heap.size := Nat.lt_of_lt_of_le hbl1 hB.size
      have hbx := hbd (l.getD j default) (by rw [it_get l j (by omega)]; exact List.getElem_mem _)
      have hbz := hbd (l.getD m1 default) (by rw [it_get l m1 (by omega)]; exact List.getElem_mem _)
      have hno : Hid (¬ (RK room l j ∧ (l.getD j default).many ≤ 4611686018427387904) → ¬ RightP room seen l) := Lib.hid (fun h hR => h ⟨(right_iff.1 hR).2.2.1 j (by omega), right_many hR j (by omega)⟩)
      have hO : Hid (RK room l j ↔ twice l j = false ∧ (l.getD j default).name.size ≤ 64 ∧ (l.getD j default).over < (l.getD j default).many ∧ (l.getD j default).over ≤ (l.getD m1 default).many ∧ ((l.getD j default).over = 0 ∨ ¬ n < room) ∧ (j = 0 ∨ ahead (l.getD (j - 1) default) (l.getD j default) = true)) := Lib.hid (by
        have e1 : l.length - 1 = m1 := by omega
        constructor
        · rintro ⟨a1, a2, a3, a5, a6, a7⟩
          rw [e1] at a5
          rw [hln] at a6
          exact ⟨a1, a2, a3, a5, a6, a7⟩
        · rintro ⟨a1, a2, a3, a5, a6, a7⟩
          exact ⟨a1, a2, a3, by rw [e1]; exact a5, by rw [hln]; exact a6, a7⟩)
      have HSN := Lib.hid (sumQ_succ l j (by omega))
      have HSR : Hid (4611686018427387904 < sumQ l (j + 1) → ¬ RightP room seen l) := Lib.hid (fun h hR => by have := right_sum hR (j + 1); omega)
      have HT1 : Hid ((∀ q, q < j → ((l.getD q default).name.toList == (l.getD j default).name.toList) = false) → twice l j = false) := Lib.hid (fun h => twice_no (by omega) h)
      have HT2 : Hid (∀ q, q < j → ((l.getD q default).name.toList == (l.getD j default).name.toList) = true → twice l j = true) := Lib.hid (fun q hq h => twice_yes (by omega) hq h)
      generalize hX : l.getD j default = X at *
      generalize hZ : (l.getD m1 default).many = zm at *
      have HX := Lib.hid hX
      have q1 : ((n : Int) - 1) = (m1 : Int) := by omega
      have q2 : (m1 : Int) < n := by omega
      have HM1 := Lib.hid hm1
      have HLN := Lib.hid hln
      have hm1n : m1 < n := by omega
      clear hm1 hln
      have j1 : (j : Int) < n := by omega
      have hb6 : Below w1.heap.size w1 (wr.alloc (.cells #[.string X.name, .int .u64 X.many, .int .u64 X.over] 109)) := hB.trans (balloc (Below.refl _ _) _ |>.mono hB.size)
      have X6 := Blk.new wr 109 #[.string X.name, .int .u64 X.many, .int .u64 X.over]
      go_upto_region 11 with fail
      generalize (wr.alloc (.cells #[.string X.name, .int .u64 X.many, .int .u64 X.over] 109)) = w6 at *
      generalize wr.heap.size = xb at *
      have z6 := (HC.out w6 hb6 m1 hm1n).2.1
      rw [hZ] at z6
      have HZ := Lib.hid hZ
      clear hZ hX e0 e1 e2 hB
      have l6 := X6.lt
      have lb6 : b < w6.heap.size := Nat.lt_of_lt_of_le hbl1 hb6.size
      have p0 : w6.cell? ⟨xb, 0, none⟩ = some (.string X.name) := X6.cellAt 0 rfl
      have p1 : w6.cell? ⟨xb, 1, none⟩ = some (.int .u64 X.many) := X6.cellAt 1 rfl
      have p2 : w6.cell? ⟨xb, 2, none⟩ = some (.int .u64 X.over) := X6.cellAt 2 rfl
      have q3 : IntKind.i64.wrap (m1 : Int) = (m1 : Int) := by rw [IntKind.wrap_i64]; omega
      by_cases g1 : X.name.size ≤ 64
      rotate_left
      · have hN := hno.out (fun h => g1 (hO.out.1 h.1).2.1)
        have HNN := Lib.hid hN
        clear hN
        have g1' : (64 : Int) < X.name.size := by omega
        go_upto_region 11 with fail
        go_quiet (fail)
        have hb9 : Below w1.heap.size w1 (w6.drewN nq) := bdrewN hb6 _
        go_wp2_with fail
        go_ret2
        exact ⟨rof_none _ _ _ _ _ _ HNN.out, bstep hb9 b1⟩
      have g1' : ¬ (64 : Int) < X.name.size := by omega
      by_cases g2 : X.over < X.many
      rotate_left
      · have hN := hno.out (fun h => g2 (hO.out.1 h.1).2.2.1)
        have HNN := Lib.hid hN
        clear hN
        have g2' : (X.many : Int) ≤ X.over := by omega
        go_upto_region 11 with fail
        go_quiet (fail)
        have hb9 : Below w1.heap.size w1 (w6.drewN nq) := bdrewN hb6 _
        go_wp2_with fail
        go_ret2
        exact ⟨rof_none _ _ _ _ _ _ HNN.out, bstep hb9 b1⟩
      have g2' : ¬ (X.many : Int) ≤ X.over := by omega
      by_cases g3 : X.many ≤ 4611686018427387904
      rotate_left
      · have hN := hno.out (fun h => g3 h.2)
        have HNN := Lib.hid hN
        clear hN
        have g3' : (4611686018427387904 : Int) < X.many := by omega
        go_upto_region 11 with fail
        go_quiet (fail)
        have hb9 : Below w1.heap.size w1 (w6.drewN nq) := bdrewN hb6 _
        go_wp2_with fail
        go_ret2
        exact ⟨rof_none _ _ _ _ _ _ HNN.out, bstep hb9 b1⟩
      have g3' : ¬ (4611686018427387904 : Int) < X.many := by omega
      by_cases g4 : X.over ≤ zm
      rotate_left
      · have hN := hno.out (fun h => g4 (hO.out.1 h.1).2.2.2.1)
        have HNN := Lib.hid hN
        clear hN
        have g4' : (zm : Int) < X.over := by omega
        go_upto_region 11 with fail
        go_quiet (fail)
        have hb9 : Below w1.heap.size w1 (w6.drewN nq) := bdrewN hb6 _
        go_wp2_with fail
        go_ret2
        exact ⟨rof_none _ _ _ _ _ _ HNN.out, bstep hb9 b1⟩
      have g4' : ¬ (zm : Int) < X.over := by omega
      by_cases g5 : X.over = 0 ∨ ¬ n < room
      rotate_left
      · have hN := hno.out (fun h => g5 (hO.out.1 h.1).2.2.2.2.1)
        have HNN := Lib.hid hN
        clear hN
        rw [not_or] at g5
        have g5' : (0 : Int) < X.over := by omega
        have g5'' : (n : Int) < room := by omega
        have g5n : 0 < X.over := by omega
        clear g5
        go_upto_region 11 with fail
        go_quiet (fail)
        have hb9 : Below w1.heap.size w1 (w6.drewN nq) := bdrewN hb6 _
        go_wp2_with fail
        go_ret2
        exact ⟨rof_none _ _ _ _ _ _ HNN.out, bstep hb9 b1⟩
      have hroom2 : (n < room ∧ (n : Int) < room ∧ ¬ 0 < X.over ∧ ¬ (0 : Int) < X.over) ∨ (¬ n < room ∧ ¬ (n : Int) < room) := by
        by_cases h : n < room
        · exact .inl ⟨h, by omega, by omega, by omega⟩
        · exact .inr ⟨h, by omega⟩
      clear hbz hbd hbx
      rcases Nat.eq_zero_or_pos j with hj0 | hj0
      · have hOK : Hid (twice l j = false → RK room l j) := Lib.hid (fun h => hO.out.2 ⟨h, g1, g2, g4, g5, .inl hj0⟩)
        have j3 : ¬ (0 : Int) < j := by omega
        have j4 : ¬ 0 < j := by omega
        clear hj0 g5
        rcases hroom2 with ⟨r1, r2, r3, r4⟩ | ⟨r1, r2⟩
        all_goals
          go_quiet (fail)
          have hb9 : Below w1.heap.size w1 (w6.drewN nq) := bdrewN hb6 _
          have X9 := X6.drewN nq
          generalize w6.drewN nq = wN at *
          obtain ⟨wo, rfl⟩ : ∃ wo : World, wo = wr := ⟨_, rfl⟩
          go_wp2_with fail
          go_loopw [12] (fun kk wv => ∃ q : Nat, q ≤ j ∧ kk = .int .i64 q ∧ Below w1.heap.size w1 wv ∧ Blk wv xb 109 #[.string X.name, .int .u64 X.many, .int .u64 X.over] ∧ Hid (∀ q', q' < q → ((l.getD q' default).name.toList == X.name.toList) = false)) (fun kk _ => j - (intOf kk).toNat)
          case atStart => exact ⟨0, Nat.zero_le _, rfl, hb9, X9, Lib.hid (fun q' h => absurd h (by omega))⟩
          case round =>
            clear hb9 X9
            obtain ⟨q, hq, rfl, hbq, Xq, HQ⟩ := hrel
            have lq := Xq.lt
            have pq0 := Xq.cellAt (u := .string X.name) 0 rfl
            have pq1 := Xq.cellAt (u := .int .u64 X.many) 1 rfl
            by_cases hqj : q < j
            · have y0 := (HC.out wr hbq q (by omega)).1
              have lbq : b < wr.heap.size := Nat.lt_of_lt_of_le hbl1 hbq.size
              have k1 : (q : Int) < j := by omega
              have k2 : (q : Int) < n := by omega
              obtain ⟨Y, hY⟩ : ∃ Y, l.getD q default = Y := ⟨_, rfl⟩
              rw [hY] at y0
              have HY := Lib.hid hY
              clear hY
              cases hsn : (Y.name.toList == X.name.toList)
              · have HQ2 : Hid (∀ q', q' < q + 1 → ((l.getD q' default).name.toList == X.name.toList) = false) := Lib.hid (fun q' hq' => by
                  rcases Nat.lt_or_ge q' q with h | h
                  · exact HQ.out q' h
                  · have e : q' = q := by omega
                    rw [e, HY.out]
                    exact hsn)
                go_upto_region 16 with fail
                go_quiet (fail)
                go_wp2_with fail
                exact ⟨⟨q + 1, by omega, by go_num, bdrewN hbq _, Xq.drewN _, HQ2⟩, by simp [intOf]; omega⟩
              · have hN := hno.out (fun h => by have h1 := (hO.out.1 h.1).1; rw [HT2.out q hqj (by rw [HY.out]; exact hsn)] at h1; cases h1)
                have HNN := Lib.hid hN
                clear hN
                go_upto_region 16 with fail
                go_quiet (fail)
                have hb10 : Below w1.heap.size w1 (wr.drewN nq) := bdrewN hbq _
                go_wp2_with fail
                go_ret2
                exact ⟨rof_none _ _ _ _ _ _ HNN.out, bstep hb10 b1⟩
            · obtain rfl : q = j := by omega
              have HK : Hid (RK room l q) := Lib.hid (hOK.out (HT1.out HQ.out))
              have k1 : ¬ (q : Int) < q := by omega
              by_cases g8 : sumQ l q + X.many ≤ 4611686018427387904
              · have g8' : ¬ (4611686018427387904 : Int) < (sumQ l q : Int) + X.many := by omega
                go_wp2_with fail
                refine ⟨⟨q + 1, by omega, by rw [HSN.out]; simp, by go_num, hbq, Lib.hid (fun k hk => ?_), by rw [HSN.out]; exact g8⟩, by simp [intOf]; omega⟩
                rcases Nat.lt_or_ge k q with h | h
                · exact HO.out k h
                · have e : k = q := by omega
                  rw [e]
                  exact HK.out
              · have g8' : (4611686018427387904 : Int) < (sumQ l q : Int) + X.many := by omega
                have hN := HSR.out (by rw [HSN.out]; omega)
                have HNN := Lib.hid hN
                clear hN
                go_wp2_with fail
                go_ret2
                exact ⟨rof_none _ _ _ _ _ _ HNN.out, bstep hbq b1⟩
      · obtain ⟨pj, hpj⟩ : ∃ pj, j = pj + 1 := ⟨j - 1, by omega⟩
        obtain ⟨y80, y81, y82⟩ := HC.out w6 hb6 pj (by omega)
        have q4 : ((j : Int) - 1) = (pj : Int) := by omega
        have q5 : (pj : Int) < n := by omega
        have q6 : IntKind.i64.wrap (pj : Int) = (pj : Int) := by rw [IntKind.wrap_i64]; omega
        have j3 : (0 : Int) < j := by omega
        have j4 : 0 < j := by omega
        have ejp : j - 1 = pj := by omega
        have hO2 := hO.out
        rw [ejp] at hO2
        have hOK : Hid (ahead (l.getD pj default) X = true → twice l j = false → RK room l j) := Lib.hid (fun h h2 => hO2.2 ⟨h2, g1, g2, g4, g5, .inr h⟩)
        have hNO2 : Hid (ahead (l.getD pj default) X = false → ¬ RightP room seen l) := Lib.hid (fun h => hno.out (fun h3 => by
          rcases (hO2.1 h3.1).2.2.2.2.2 with h2 | h2
          · omega
          · rw [h] at h2
            cases h2))
        clear hpj hj0 g5 hO2 ejp
        generalize l.getD pj default = P at *
        have HCM := Lib.hid (fun W => before_call P X W)
        rcases hroom2 with ⟨r1, r2, r3, r4⟩ | ⟨r1, r2⟩
        all_goals
          refine wp_region_still_tail 49 (by kernel_rfl) (by kernel_rfl) ?_
          have hb8' := bdrew hb6
          have X8 := X6.drew
          have y80' : w6.drew.cell? ⟨b, off + pj * 3, none⟩ = some (.string P.name) := y80
          have y81' : w6.drew.cell? ⟨b, off + pj * 3 + 1, none⟩ = some (.int .u64 P.many) := y81
          have y82' : w6.drew.cell? ⟨b, off + pj * 3 + 2, none⟩ = some (.int .u64 P.over) := y82
          have z8 : w6.drew.cell? ⟨b, off + m1 * 3 + 1, none⟩ = some (.int .u64 zm) := z6
          have p0' : w6.drew.cell? ⟨xb, 0, none⟩ = some (.string X.name) := p0
          have p1' : w6.drew.cell? ⟨xb, 1, none⟩ = some (.int .u64 X.many) := p1
          have p2' : w6.drew.cell? ⟨xb, 2, none⟩ = some (.int .u64 X.over) := p2
          have l8 : xb < w6.drew.heap.size := l6
          have lb8 : b < w6.drew.heap.size := lb6
          clear y80 y81 y82 z6 p0 p1 p2 l6 lb6 X6 hb6
          change wpStill _ _ w6.drew _ _ _
          generalize hw9 : w6.drew = w9 at *
          have HW9 := Lib.hid hw9
          clear hw9
          simp only [List.take_succ_cons, List.take_zero, List.drop_succ_cons, List.drop_zero]
          refine still_gen (fun KK hKK => ?_)
          repeat still_step
          refine wpStill_nil ?_
          refine hKK.out _ ?_
          clear hKK KK
          have hw9 := HW9.out
          clear HW9
          subst hw9
          change wpList _ _ _ _ _ w6.drew
          cases hah : ahead P X
          · have HNN := Lib.hid (hNO2.out hah)
            go_wp2_with (first | (go_at_call 76; refine (HCM.out _).mono ?_; rw [hah]; rintro e wA ⟨rfl, hL⟩; have hb9 := bstep hL.below hb8'; have X9 := Blk.step hL.below X8; clear hL))
            go_ret2
            exact ⟨rof_none _ _ _ _ _ _ HNN.out, bstep hb9 b1⟩
          · have HOK2 := Lib.hid (hOK.out hah)
            clear hOK
            have hOK := HOK2
            clear HOK2
            obtain ⟨wo, rfl⟩ : ∃ wo : World, wo = wr := ⟨_, rfl⟩
            go_wp2_with (first | (go_at_call 76; refine (HCM.out _).mono ?_; rw [hah]; rintro e wA ⟨rfl, hL⟩; have hb9 := bstep hL.below hb8'; have X9 := Blk.step hL.below X8; clear hL))
            go_loopw [12] (fun kk wv => ∃ q : Nat, q ≤ j ∧ kk = .int .i64 q ∧ Below w1.heap.size w1 wv ∧ Blk wv xb 109 #[.string X.name, .int .u64 X.many, .int .u64 X.over] ∧ Hid (∀ q', q' < q → ((l.getD q' default).name.toList == X.name.toList) = false)) (fun kk _ => j - (intOf kk).toNat)
            case atStart => exact ⟨0, Nat.zero_le _, rfl, hb9, X9, Lib.hid (fun q' h => absurd h (by omega))⟩
            case round =>
              clear hb9 X9
              obtain ⟨q, hq, rfl, hbq, Xq, HQ⟩ := hrel
              have lq := Xq.lt
              have pq0 := Xq.cellAt (u := .string X.name) 0 rfl
              have pq1 := Xq.cellAt (u := .int .u64 X.many) 1 rfl
              by_cases hqj : q < j
              · have y0 := (HC.out wr hbq q (by omega)).1
                have lbq : b < wr.heap.size := Nat.lt_of_lt_of_le hbl1 hbq.size
                have k1 : (q : Int) < j := by omega
                have k2 : (q : Int) < n := by omega
                obtain ⟨Y, hY⟩ : ∃ Y, l.getD q default = Y := ⟨_, rfl⟩
                rw [hY] at y0
                have HY := Lib.hid hY
                clear hY
                cases hsn : (Y.name.toList == X.name.toList)
                · have HQ2 : Hid (∀ q', q' < q + 1 → ((l.getD q' default).name.toList == X.name.toList) = false) := Lib.hid (fun q' hq' => by
                    rcases Nat.lt_or_ge q' q with h | h
                    · exact HQ.out q' h
                    · have e : q' = q := by omega
                      rw [e, HY.out]
                      exact hsn)
                  go_upto_region 16 with fail
                  go_quiet (fail)
                  go_wp2_with fail
                  exact ⟨⟨q + 1, by omega, by go_num, bdrewN hbq _, Xq.drewN _, HQ2⟩, by simp [intOf]; omega⟩
                · have hN := hno.out (fun h => by have h1 := (hO.out.1 h.1).1; rw [HT2.out q hqj (by rw [HY.out]; exact hsn)] at h1; cases h1)
                  have HNN := Lib.hid hN
                  clear hN
                  go_upto_region 16 with fail
                  go_quiet (fail)
                  have hb10 : Below w1.heap.size w1 (wr.drewN nq) := bdrewN hbq _
                  go_wp2_with fail
                  go_ret2
                  exact ⟨rof_none _ _ _ _ _ _ HNN.out, bstep hb10 b1⟩
              · obtain rfl : q = j := by omega
                have HK : Hid (RK room l q) := Lib.hid (hOK.out (HT1.out HQ.out))
                have k1 : ¬ (q : Int) < q := by omega
                by_cases g8 : sumQ l q + X.many ≤ 4611686018427387904
                · have g8' : ¬ (4611686018427387904 : Int) < (sumQ l q : Int) + X.many := by omega
                  go_wp2_with fail
                  refine ⟨⟨q + 1, by omega, by rw [HSN.out]; simp, by go_num, hbq, Lib.hid (fun k hk => ?_), by rw [HSN.out]; exact g8⟩, by simp [intOf]; omega⟩
                  rcases Nat.lt_or_ge k q with h | h
                  · exact HO.out k h
                  · have e : k = q := by omega
                    rw [e]
                    exact HK.out
                · have g8' : (4611686018427387904 : Int) < (sumQ l q : Int) + X.many := by omega
                  have hN := HSR.out (by rw [HSN.out]; omega)
                  have HNN := Lib.hid hN
                  clear hN
                  go_wp2_with fail
                  go_ret2
                  exact ⟨rof_none _ _ _ _ _ _ HNN.out, bstep hbq b1⟩
    · obtain rfl : j = n := by omega
      have hsa := sumQ_all l j (by omega)
      rw [hsa] at hsq ⊢
      have j1 : ¬ (j : Int) < j := by omega
      by_cases hz : (l.map (·.many)).sum = seen
      · have hR : RightP room seen l := right_iff.2 ⟨by omega, h2, fun k hk => HO.out k (by omega), hz⟩
        have HR := Lib.hid hR
        rw [hz]
        have hmany : ∀ x ∈ l, x.many ≤ 4611686018427387904 ∧ x.over ≤ 4611686018427387904 := fun x hx => by
          have h1 := mem_le_sum hx
          rw [hR.sum] at h1
          obtain ⟨i, hi, rfl⟩ := List.mem_iff_getElem.1 hx
          have h3 := (hR.ok i hi).ov
          rw [it_get l i hi] at h3
          exact ⟨by omega, by omega⟩
        have HM := Lib.hid hmany
        have T2 := T1.step hB
        have Rr := (R.step b1).step hB
        have hbr : base ≤ wr.heap.size := Nat.le_trans hb (Nat.le_trans b1.size hB.size)
        have HLN := Lib.hid hln
        clear hR hz hsa hmany hln R hbd
        obtain ⟨i0, hi0, hz0, hz1, hz2⟩ := info_parts info_ritem
        have last : Hid (∀ (W5 : World) (A' : Option Addr) (c' : Nat), wr.grownBy W5 none → W5.ownsRow base 109 3 (.slice A' j c') j (flat l) → ROfAns base room seen w.heap.size l (.returned (.tuple #[.pointer (some ⟨w.heap.size, 0, none⟩), .int .i64 0])) ((W5.setCell ⟨w.heap.size, 0, none⟩ (.slice A' j c')).setCell ⟨w.heap.size, 2, none⟩ (.int .u64 seen)) ∧ Below w.heap.size w ((W5.setCell ⟨w.heap.size, 0, none⟩ (.slice A' j c')).setCell ⟨w.heap.size, 2, none⟩ (.int .u64 seen))) := Lib.hid (fun W5 A' c' hG5 hown => by
          have b5 := below_of_only hG5
          have T5 := T2.step b5
          have I5 : RIts W5 base A' j c' l := ⟨hown⟩
          have hfar := I5.far T5.blk (by decide)
          have BB : Blk ((W5.setCell ⟨w.heap.size, 0, none⟩ (.slice A' j c')).setCell ⟨w.heap.size, 2, none⟩ (.int .u64 seen)) w.heap.size 54 #[.slice A' j c', .int .i64 room, .int .u64 seen] := (T5.blk.put 0 (.slice A' j c')).put 2 (.int .u64 seen)
          have hG : W5.grownBy ((W5.setCell ⟨w.heap.size, 0, none⟩ (.slice A' j c')).setCell ⟨w.heap.size, 2, none⟩ (.int .u64 seen)) (some w.heap.size) := only_setCell (p := ⟨w.heap.size, 2, none⟩) (only_setCell (p := ⟨w.heap.size, 0, none⟩) (only_refl _ _) (.inl rfl) _) (.inl rfl) _
          exact ⟨.inl ⟨HR.out, A', j, c', rfl, BB, ⟨I5.own.kept hG (.inr (fun e => hfar e.symm))⟩, hb, hrm, by have := HR.out.len; have := HLN.out; omega, by omega, fun x hx => ⟨(HM.out x hx).1, (HM.out x hx).2⟩⟩, bonly (bstep b5 (bstep hB b1)) hG (Nat.le_refl _)⟩)
        have hlast5 : Hid (∀ (W5 : World), wr.grownBy W5 none → W5.cell? ⟨w.heap.size, 0, none⟩ = some (.slice none 0 0) ∧ W5.cell? ⟨w.heap.size, 2, none⟩ = some (.int .u64 0) ∧ W5.frozen? ⟨w.heap.size, 0, none⟩ = false ∧ w.heap.size < W5.heap.size ∧ ∀ v, (W5.setCell ⟨w.heap.size, 0, none⟩ v).frozen? ⟨w.heap.size, 2, none⟩ = false) := Lib.hid (fun W5 hG5 => by
          have T5 := T2.step (below_of_only hG5)
          exact ⟨T5.blk.cellAt 0 rfl, T5.blk.cellAt 2 rfl, T5.blk.frozen 0, T5.blk.lt, fun v => (T5.blk.put 0 v).frozen 2⟩)
        rcases Nat.eq_zero_or_pos j with h0 | h0
        · have hl0 : l = [] := List.eq_nil_of_length_eq_zero (by rw [HLN.out, h0])
          subst h0
          obtain ⟨c0, c2, f0, lt5, f2⟩ := hlast5.out wr (only_refl _ _)
          have f2' := f2 (.slice none 0 0)
          have hL := last.out wr none 0 (only_refl _ _) (by rw [hl0]; exact World.ownsRow_nil _ _ _ 3)
          have HL := Lib.hid hL
          clear hL f2 hl0
          go_wp2_with (at_builtin; refine wpList_appE rfl (.const (.slice none 0 0)) (.tmp 111) 52 rfl 109 i0 Tryz.underlying52 hi0 base 3 none A 0 0 [] (World.ownsRow_nil _ _ _ 3) rfl c rfl ?_)
          go_ret2
          exact HL.out
        · obtain ⟨b, off, rfl, hbl, _⟩ := Rr.at_ h0
          have hcells := Lib.hid (itRow_cells Rr h0)
          have hfl : (flat l).length = j * 3 := by rw [flat_len, HLN.out]
          go_wp2_with (at_builtin; (refine wpList_append_own_at _ rfl (.const (.slice none 0 0)) (.tmp 111) 52 rfl base 109 i0 _ 3 32 Tryz.underlying52 hi0 hz0 hz1 hz2 rfl (by omega) (.slice none 0 0) 0 [] rfl (World.ownsRow_nil _ _ _ 3) ⟨b, off, none⟩ j c (flat l) rfl hfl hcells.out (flat_one _) (by simp only [maxLen]; omega) (by omega) hbr ?_; intro v' W5 hown5 hG5 hnil5 hat5; rw [Nat.zero_add, List.nil_append] at hown5; obtain ⟨A5, c5, rfl⟩ := own_form hown5; have hG5' : wr.grownBy W5 none := hG5; obtain ⟨c0, c2, f0, lt5, f2⟩ := hlast5.out W5 hG5'; have f2' := f2 (.slice A5 j c5); have HL := Lib.hid (last.out W5 A5 c5 hG5' hown5); clear f2 hown5 hnil5 hat5 hG5 hfl))
          go_ret2
          exact HL.out
      · have hR : ¬ RightP room seen l := fun h => hz h.sum
        have HR := Lib.hid hR
        generalize (l.map (·.many)).sum = tot at *
        have hz1 : ((tot : Int) == (seen : Int)) = false := by simp; omega
        clear hR hsa hz
        go_wp2_with fail
        go_ret2
        exact ⟨rof_none _ _ _ _ _ _ HR.out, bstep hB b1⟩
end Go.Proofs.YtapiehddcdnadaaGreatDoor

/- The reference's worst, Least. -/
import Derived.Test.YtcbheekfdhklcaaTopY
namespace Go.Proofs.Ytcbheekfdhklcaa
open Go.RowKit
set_option linter.unusedVariables false
set_option linter.unusedSimpArgs false

theorem more_draws {w wr : World} (h : ∃ m, wr = w.drewN m) (q : Nat) : ∃ m, wr.drewN q = w.drewN m := by
  obtain ⟨m, rfl⟩ := h
  exact ⟨m + q, World.drewN_drewN _ _ _⟩
theorem Rp.step {w w' : World} {base g room seen : Nat} {A : Option Addr} {n c : Nat} {l : List It} (T : Rp w base g room seen A n c l) (hb : Below w.heap.size w w') : Rp w' base g room seen A n c l :=
  ⟨Blk.step hb T.blk, T.its.step hb, T.g0, T.rm, T.ln, T.sn, T.bd⟩

set_option maxRecDepth 100000 in
set_option maxHeartbeats 2000000 in
theorem rworst_call {base g room seen : Nat} {A : Option Addr} {n c : Nat} {l : List It} {w : World} (T : Rp w base g room seen A n c l) :
    Calls Try.prog 34 #[.pointer (some ⟨g, 0, none⟩)] w fun e w' => e = .returned (.int .i64 (worst l)) ∧ ∃ m, w' = w.drewN m := by
  have c0 : w.cell? ⟨g, 0, none⟩ = some (.slice A n c) := T.blk.cellAt 0 rfl
  have hln := T.its.len
  have hn16 : n ≤ 16 := by have := T.ln; have := T.rm; omega
  have hlt := T.blk.lt
  go_enter Try.func34, Try.ntmps34
  go_wp2_with fail
  go_loopw [3, 4] (fun at_ i wr => ∃ j : Nat, j ≤ n ∧ i = .int .i64 j ∧ at_ = .int .i64 (worstTo l j) ∧ ∃ m, wr = w.drewN m) (fun _ i _ => n - (intOf i).toNat)
  case atStart => exact ⟨0, Nat.zero_le _, rfl, rfl, 0, rfl⟩
  case round =>
    obtain ⟨j, hj, rfl, rfl, hD⟩ := hrel
    have HD := Lib.hid hD
    have hB : Below w.heap.size w wr := by obtain ⟨m, rfl⟩ := hD; exact bdrewN (Below.refl _ _) _
    clear hD
    have cg := (hB.cell (p := ⟨g, 0, none⟩) hlt).trans c0
    have hg2 : g < wr.heap.size := Nat.lt_of_lt_of_le hlt hB.size
    by_cases hjn : j < n
    · obtain ⟨r, rfl, hr0, hr1, hrc, hcell⟩ := T.its.row (by omega)
      obtain ⟨x0, x1, x2⟩ := hcell j hjn
      have hwl : worstTo l j < n := by
        by_cases h : j = 0
        · subst h; exact hjn
        · have := worstTo_lt l j h; omega
      obtain ⟨y0, y1, y2⟩ := hcell (worstTo l j) hwl
      have e0 := (hB.cell (p := ⟨r, j * 3, none⟩) hr1).trans x0
      have e1 := (hB.cell (p := ⟨r, j * 3 + 1, none⟩) hr1).trans x1
      have f0 := (hB.cell (p := ⟨r, worstTo l j * 3, none⟩) hr1).trans y0
      have f1 := (hB.cell (p := ⟨r, worstTo l j * 3 + 1, none⟩) hr1).trans y1
      have hr2 : r < wr.heap.size := Nat.lt_of_lt_of_le hr1 hB.size
      clear x0 x1 x2 y0 y1 y2 hcell c0
      generalize hX : l.getD j default = X at *
      generalize hY : l.getD (worstTo l j) default = Y at *
      have HX := Lib.hid hX
      have HY := Lib.hid hY
      clear hX hY
      have HK : Hid (worse X Y = false → worstTo l (j + 1) = worstTo l j) := Lib.hid (fun h => worstTo_keep (l := l) (j := j) (by rw [HX.out, HY.out]; exact h))
      have HT : Hid (worse X Y = true → worstTo l (j + 1) = j) := Lib.hid (fun h => worstTo_turn (l := l) (j := j) (by rw [HX.out, HY.out]; exact h))
      generalize hW : worstTo l j = wt at *
      have HW := Lib.hid hW
      clear hW
      have hj1 : (j : Int) < n := by omega
      have hw1 : (wt : Int) < n := by omega
      have HV : Hid (worse X Y = (decide (X.many < Y.many) || (decide (X.many = Y.many) && decide (X.name.data.toList < Y.name.data.toList)))) := Lib.hid rfl
      have HL := Lib.hid (less_iff X.name Y.name)
      clear T hlt hln
      go_upto_region 5 with fail
      rcases Nat.lt_trichotomy X.many Y.many with h1 | h1 | h1
      · have HT2 := Lib.hid (HT.out (by rw [HV.out]; simp [h1]))
        have n1 : (X.many : Int) < Y.many := by omega
        go_quiet (fail)
        have hB3 : ∃ m, wr.drewN nq = w.drewN m := more_draws HD.out nq
        go_wp2_with fail
        exact ⟨⟨j + 1, by omega, by go_num, by rw [HT2.out], hB3⟩, by simp [intOf]; omega⟩
      · have n1 : ¬ (X.many : Int) < Y.many := by omega
        have n2 : ((X.many : Int) == Y.many) = true := by simp; omega
        cases hL2 : Op.bytesLess X.name.toList Y.name.toList
        · have HK2 := Lib.hid (HK.out (by rw [HV.out, ← HL.out, hL2]; simp [h1]))
          clear h1
          go_quiet (fail)
          have hB3 : ∃ m, wr.drewN nq = w.drewN m := more_draws HD.out nq
          go_wp2_with fail
          exact ⟨⟨j + 1, by omega, by go_num, by rw [HK2.out], hB3⟩, by simp [intOf]; omega⟩
        · have HT2 := Lib.hid (HT.out (by rw [HV.out, ← HL.out, hL2]; simp [h1]))
          clear h1
          go_quiet (fail)
          have hB3 : ∃ m, wr.drewN nq = w.drewN m := more_draws HD.out nq
          go_wp2_with fail
          exact ⟨⟨j + 1, by omega, by go_num, by rw [HT2.out], hB3⟩, by simp [intOf]; omega⟩
      · have HK2 := Lib.hid (HK.out (by rw [HV.out]; simp; omega))
        have n1 : ¬ (X.many : Int) < Y.many := by omega
        have n2 : ((X.many : Int) == Y.many) = false := by simp; omega
        go_quiet (fail)
        have hB3 : ∃ m, wr.drewN nq = w.drewN m := more_draws HD.out nq
        go_wp2_with fail
        exact ⟨⟨j + 1, by omega, by go_num, by rw [HK2.out], hB3⟩, by simp [intOf]; omega⟩
    · obtain rfl : j = n := by omega
      have hW : worstTo l j = worst l := by unfold worst; rw [hln]
      have HW := Lib.hid hW
      clear hW
      go_wp2_with fail
      go_ret
      exact ⟨by rw [← HW.out]; rfl, HD.out⟩

set_option maxRecDepth 100000 in
theorem rleast_call {base g room seen : Nat} {A : Option Addr} {n c : Nat} {l : List It} {w : World} (T : Rp w base g room seen A n c l) :
    Calls Try.prog 24 #[.pointer (some ⟨g, 0, none⟩)] w fun e w' => e = .returned (.int .u64 (leastT room l)) ∧ Below w.heap.size w w' := by
  have c0 : w.cell? ⟨g, 0, none⟩ = some (.slice A n c) := T.blk.cellAt 0 rfl
  have c1 : w.cell? ⟨g, 1, none⟩ = some (.int .i64 room) := T.blk.cellAt 1 rfl
  have hlt := T.blk.lt
  have hln := T.its.len
  have hroom := T.ln
  have hrm := T.rm
  by_cases hr : n < room
  · have e : leastT room l = 0 := by unfold leastT; rw [if_pos (by omega)]
    rw [e]
    have hr1 : (n : Int) < room := by omega
    clear e
    go_enter Try.func24, Try.ntmps24
    go_wp2_with fail
    go_quiet (fail)
    go_wp2_with fail
    go_ret
    exact ⟨rfl, bdrewN (Below.refl _ _) _⟩
  · have e : leastT room l = (l.getD (worst l) default).many := by unfold leastT; rw [if_neg (by omega)]
    rw [e]
    have hr1 : ¬ (n : Int) < room := by omega
    clear e
    have HT := Lib.hid T
    generalize hLM : (l.getD (worst l) default).many = lm
    have HLM := Lib.hid hLM
    clear hLM T
    go_enter Try.func24, Try.ntmps24
    go_wp2_with fail
    go_quiet (fail)
    have hBd : Below w.heap.size w (w.drewN nq) := bdrewN (Below.refl _ _) nq
    have T2 := HT.out.step hBd
    generalize w.drewN nq = W at *
    clear c0 c1 hlt
    have c0 : W.cell? ⟨g, 0, none⟩ = some (.slice A n c) := T2.blk.cellAt 0 rfl
    have hlt := T2.blk.lt
    have hl0 : l ≠ [] := fun h => by subst h; simp at hln; omega
    have hwl := worst_lt l hl0
    obtain ⟨r, rfl, hr0, hrlt, hrc, hcell⟩ := T2.its.row (by omega)
    have x1 := (hcell (worst l) (by omega)).2.1
    have HW : Hid (∀ q, Calls Try.prog 34 #[.pointer (some ⟨g, 0, none⟩)] (W.drewN q) fun e w' => e = .returned (.int .i64 (worst l)) ∧ ∃ m, w' = (W.drewN q).drewN m) := Lib.hid (fun q => rworst_call (T2.step (bdrewN (Below.refl _ _) q)))
    rw [HLM.out] at x1
    generalize worst l = wi at *
    have hw1 : (wi : Int) < n := by omega
    clear hcell T2 hl0
    go_wp2_with fail
    go_quiet ((go_at_call 34; exact Calls.quiet_of (HW.out _)))
    have hB3 := bdrewN hBd nq
    go_wp2_with fail
    go_ret
    exact ⟨rfl, bstep (bdrewN (Below.refl _ _) _) hBd⟩
end Go.Proofs.Ytcbheekfdhklcaa

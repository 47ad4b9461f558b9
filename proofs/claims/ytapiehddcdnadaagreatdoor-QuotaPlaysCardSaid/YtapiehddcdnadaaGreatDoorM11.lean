/- The reference's New, before, worst, Least. The reference's worst, Least. The reference's Add. The law's helpers: refs, same, a deed's name. refs: items as the document's. The reference's Items: plain lemmas; append of nothing. -/
import Derived.Test.YtapiehddcdnadaaGreatDoorM10
import Derived.Test.YtapiehddcdnadaaGreatDoorM8
import Derived.StillTailTactics
import Derived.Test.YtapiehddcdnadaaGreatDoorM9
import Derived.Deep.RegionLaw
namespace Go.Proofs.YtapiehddcdnadaaGreatDoor
open Go.RowKit
set_option linter.unusedVariables false
set_option linter.unusedSimpArgs false

theorem rnew_no (k : Int) (hk : k < 1 ∨ 16 < k) (w : World) : Calls Tryz.prog 34 #[.int .i64 k] w fun e w' => e = .returned (.pointer none) ∧ w' = w := by
  by_cases h : k < 1
  · clear hk
    go_enter Tryz.func34, Tryz.ntmps34
    go_wp2_with fail
    go_ret
    exact ⟨rfl, rfl⟩
  · have h2 : 16 < k := by omega
    clear hk
    go_enter Tryz.func34, Tryz.ntmps34
    go_wp2_with fail
    go_ret
    exact ⟨rfl, rfl⟩
theorem rnew_yes (k : Nat) (h0 : 1 ≤ k) (h1 : k ≤ 16) (base : Nat) (w : World) (hb : base ≤ w.heap.size) : Calls Tryz.prog 34 #[.int .i64 k] w fun e w' => e = .returned (.pointer (some ⟨w.heap.size, 0, none⟩)) ∧ Rp w' base w.heap.size k 0 none 0 0 [] ∧ Below w.heap.size w w' := by
  have a1 : ¬ (k : Int) < 1 := by omega
  have a2 : ¬ (16 : Int) < k := by omega
  go_enter Tryz.func34, Tryz.ntmps34
  go_wp2_with fail
  go_ret
  exact ⟨rfl, ⟨Blk.new w _ _, RIts.nil, hb, ⟨h0, h1⟩, Nat.zero_le _, Nat.zero_le _, fun x hx => by cases hx⟩, balloc (Below.refl _ _) _⟩
theorem before_call (a b : It) (w : World) : Calls Tryz.prog 76 #[.agg #[.string a.name, .int .u64 a.many, .int .u64 a.over], .agg #[.string b.name, .int .u64 b.many, .int .u64 b.over]] w fun e w' => e = .returned (.bool (ahead a b)) ∧ Lays w w' := by
  have L2 : ∀ o1 o2, Lays w ((w.alloc o1).alloc o2) := fun o1 o2 => ((Lays.refl w).alloc _).alloc _
  rcases Nat.lt_trichotomy b.many a.many with h | h | h
  · have e : ahead a b = true := (ahead_iff a b).2 (.inl h)
    rw [e]
    have h1 : (b.many : Int) < a.many := by omega
    clear e h
    go_enter Tryz.func76, Tryz.ntmps76
    go_wp2_with fail
    go_ret
    exact ⟨rfl, L2 _ _⟩
  · cases hl : Op.bytesLess a.name.toList b.name.toList
    · have hn : ¬ a.name.data.toList < b.name.data.toList := by rw [less_iff] at hl; simpa using hl
      have e : ahead a b = false := (ahead_no a b).2 (by rintro (h2 | ⟨_, h2⟩); omega; exact hn h2)
      rw [e]
      have h1 : ¬ (b.many : Int) < a.many := by omega
      have h2 : ((a.many : Int) == b.many) = true := by simp; omega
      clear e h hn
      go_enter Tryz.func76, Tryz.ntmps76
      go_wp2_with fail
      go_ret
      exact ⟨rfl, L2 _ _⟩
    · have hn : a.name.data.toList < b.name.data.toList := by rw [less_iff] at hl; simpa using hl
      have e : ahead a b = true := (ahead_iff a b).2 (.inr ⟨h.symm, hn⟩)
      rw [e]
      have h1 : ¬ (b.many : Int) < a.many := by omega
      have h2 : ((a.many : Int) == b.many) = true := by simp; omega
      clear e h hn
      go_enter Tryz.func76, Tryz.ntmps76
      go_wp2_with fail
      go_ret
      exact ⟨rfl, L2 _ _⟩
  · have e : ahead a b = false := (ahead_no a b).2 (by rintro (h2 | ⟨h2, _⟩) <;> omega)
    rw [e]
    have h1 : ¬ (b.many : Int) < a.many := by omega
    have h2 : ((a.many : Int) == b.many) = false := by simp; omega
    clear e h
    go_enter Tryz.func76, Tryz.ntmps76
    go_wp2_with fail
    go_ret
    exact ⟨rfl, L2 _ _⟩
end Go.Proofs.YtapiehddcdnadaaGreatDoor
namespace Go.Proofs.YtapiehddcdnadaaGreatDoor
open Go.RowKit
set_option linter.unusedVariables false
set_option linter.unusedSimpArgs false

theorem more_draws {w wr : World} (h : ∃ m, wr = w.drewN m) (q : Nat) : ∃ m, wr.drewN q = w.drewN m := by
  obtain ⟨m, rfl⟩ := h
  exact ⟨m + q, World.drewN_drewN _ _ _⟩
theorem Rp.step {w w' : World} {base g room seen : Nat} {A : Option Addr} {n c : Nat} {l : List It} (T : Rp w base g room seen A n c l) (hb : Below w.heap.size w w') : Rp w' base g room seen A n c l :=
  ⟨Blk.step hb T.blk, T.its.step hb, T.g0, T.rm, T.ln, T.sn, T.bd⟩

set_option maxRecDepth 100000 in
set_option maxHeartbeats 2000000 in
theorem rworst_call {base g room seen : Nat} {A : Option Addr} {n c : Nat} {l : List It} {w : World} (T : Rp w base g room seen A n c l) :
    Calls Tryz.prog 84 #[.pointer (some ⟨g, 0, none⟩)] w fun e w' => e = .returned (.int .i64 (worst l)) ∧ ∃ m, w' = w.drewN m := by
  have c0 : w.cell? ⟨g, 0, none⟩ = some (.slice A n c) := T.blk.cellAt 0 rfl
  have hln := T.its.len
  have hn16 : n ≤ 16 := by have := T.ln; have := T.rm; omega
  have hlt := T.blk.lt
  go_enter Tryz.func84, Tryz.ntmps84
  go_wp2_with fail
  go_loopw [3, 4] (fun at_ i wr => ∃ j : Nat, j ≤ n ∧ i = .int .i64 j ∧ at_ = .int .i64 (worstTo l j) ∧ ∃ m, wr = w.drewN m) (fun _ i _ => n - (intOf i).toNat)
  case atStart => exact ⟨0, Nat.zero_le _, rfl, rfl, 0, rfl⟩
  case round =>
    obtain ⟨j, hj, rfl, rfl, hD⟩ := hrel
    have HD := Lib.hid hD
    have hB : Below w.heap.size w wr := by obtain ⟨m, rfl⟩ := hD; exact bdrewN (Below.refl _ _) _
    clear hD
    have cg := (hB.cell (p := ⟨g, 0, none⟩) hlt).trans c0
    have hg2 : g < wr.heap.size := Nat.lt_of_lt_of_le hlt hB.size
    by_cases hjn : j < n
    · obtain ⟨r, rfl, hr0, hr1, hrc, hcell⟩ := T.its.row (by omega)
      obtain ⟨x0, x1, x2⟩ := hcell j hjn
      have hwl : worstTo l j < n := by
        by_cases h : j = 0
        · subst h; exact hjn
        · have := worstTo_lt l j h; omega
      obtain ⟨y0, y1, y2⟩ := hcell (worstTo l j) hwl
      have e0 := (hB.cell (p := ⟨r, j * 3, none⟩) hr1).trans x0
      have e1 := (hB.cell (p := ⟨r, j * 3 + 1, none⟩) hr1).trans x1
      have f0 := (hB.cell (p := ⟨r, worstTo l j * 3, none⟩) hr1).trans y0
      have f1 := (hB.cell (p := ⟨r, worstTo l j * 3 + 1, none⟩) hr1).trans y1
      have hr2 : r < wr.heap.size := Nat.lt_of_lt_of_le hr1 hB.size
      clear x0 x1 x2 y0 y1 y2 hcell c0
      generalize hX : l.getD j default = X at *
      generalize hY : l.getD (worstTo l j) default = Y at *
      have HX := Lib.hid hX
      have HY := Lib.hid hY
      clear hX hY
      have HK : Hid (worse X Y = false → worstTo l (j + 1) = worstTo l j) := Lib.hid (fun h => worstTo_keep (l := l) (j := j) (by rw [HX.out, HY.out]; exact h))
      have HT : Hid (worse X Y = true → worstTo l (j + 1) = j) := Lib.hid (fun h => worstTo_turn (l := l) (j := j) (by rw [HX.out, HY.out]; exact h))
      generalize hW : worstTo l j = wt at *
      have HW := Lib.hid hW
      clear hW
      have hj1 : (j : Int) < n := by omega
      have hw1 : (wt : Int) < n := by omega
      have HV : Hid (worse X Y = (decide (X.many < Y.many) || (decide (X.many = Y.many) && decide (X.name.data.toList < Y.name.data.toList)))) := Lib.hid rfl
      have HL := Lib.hid (less_iff X.name Y.name)
      clear T hlt hln
      go_upto_region 5 with fail
      rcases Nat.lt_trichotomy X.many Y.many with h1 | h1 | h1
      · have HT2 := Lib.hid (HT.out (by rw [HV.out]; simp [h1]))
        have n1 : (X.many : Int) < Y.many := by omega
        go_quiet (fail)
        have hB3 : ∃ m, wr.drewN nq = w.drewN m := more_draws HD.out nq
        go_wp2_with fail
        exact ⟨⟨j + 1, by omega, by go_num, by rw [HT2.out], hB3⟩, by simp [intOf]; omega⟩
      · have n1 : ¬ (X.many : Int) < Y.many := by omega
        have n2 : ((X.many : Int) == Y.many) = true := by simp; omega
        cases hL2 : Op.bytesLess X.name.toList Y.name.toList
        · have HK2 := Lib.hid (HK.out (by rw [HV.out, ← HL.out, hL2]; simp [h1]))
          clear h1
          go_quiet (fail)
          have hB3 : ∃ m, wr.drewN nq = w.drewN m := more_draws HD.out nq
          go_wp2_with fail
          exact ⟨⟨j + 1, by omega, by go_num, by rw [HK2.out], hB3⟩, by simp [intOf]; omega⟩
        · have HT2 := Lib.hid (HT.out (by rw [HV.out, ← HL.out, hL2]; simp [h1]))
          clear h1
          go_quiet (fail)
          have hB3 : ∃ m, wr.drewN nq = w.drewN m := more_draws HD.out nq
          go_wp2_with fail
          exact ⟨⟨j + 1, by omega, by go_num, by rw [HT2.out], hB3⟩, by simp [intOf]; omega⟩
      · have HK2 := Lib.hid (HK.out (by rw [HV.out]; simp; omega))
        have n1 : ¬ (X.many : Int) < Y.many := by omega
        have n2 : ((X.many : Int) == Y.many) = false := by simp; omega
        go_quiet (fail)
        have hB3 : ∃ m, wr.drewN nq = w.drewN m := more_draws HD.out nq
        go_wp2_with fail
        exact ⟨⟨j + 1, by omega, by go_num, by rw [HK2.out], hB3⟩, by simp [intOf]; omega⟩
    · obtain rfl : j = n := by omega
      have hW : worstTo l j = worst l := by unfold worst; rw [hln]
      have HW := Lib.hid hW
      clear hW
      go_wp2_with fail
      go_ret
      exact ⟨by rw [← HW.out]; rfl, HD.out⟩

end Go.Proofs.YtapiehddcdnadaaGreatDoor
namespace Go.Proofs.YtapiehddcdnadaaGreatDoor
open Go.RowKit
set_option linter.unusedVariables false
set_option linter.unusedSimpArgs false

theorem info_ritem : (Tryz.prog.info? 109).map (fun i => (i.zero, i.size, i.bytes)) = some (some (.agg #[.string ⟨#[]⟩, .int .u64 0, .int .u64 0]), 3, 32) := by kernel_rfl

set_option maxRecDepth 100000 in
set_option maxHeartbeats 2000000 in
theorem radd_call (base g : Nat) (room seen : Nat) (A : Option Addr) (n c : Nat) (l : List It) (nm : ByteArray) (by_ : Nat) (hb : by_ < 18446744073709551616) (hnm : nm.size ≤ 140737488355328) (w : World) (T : Rp w base g room seen A n c l) (I : Inv room seen l) :
    Calls Tryz.prog 65 #[.pointer (some ⟨g, 0, none⟩), .string nm, .int .u64 by_] w fun e w' => e = .returned (.int .i64 (addE seen nm by_)) ∧ ∃ A' n' c', Rp w' base g room (stepS seen nm by_) A' n' c' (stepT room seen l nm by_) ∧
      Only w w' (mine g (.slice A n c)) ∧ RowNew w (.slice A n c) (.slice A' n' c') := by
  have hlt := T.blk.lt
  have hsn := T.sn
  have c2 : w.cell? ⟨g, 2, none⟩ = some (.int .u64 seen) := T.blk.cellAt 2 rfl
  have f2 := T.blk.frozen 2
  have hE : addE seen nm by_ = if 64 < nm.size ∨ by_ = 0 then 1 else if 4611686018427387904 - seen < by_ then 7 else 0 := rfl
  have hdo : addE seen nm by_ ≠ 0 → Rp w base g room (stepS seen nm by_) A n c (stepT room seen l nm by_) := fun h => by
    unfold stepS stepT
    rw [if_neg h, if_neg h]
    exact T
  by_cases h1 : 64 < nm.size
  · rw [if_pos (.inl h1)] at hE
    have hT := hdo (by omega)
    rw [hE]
    generalize stepS seen nm by_ = s' at *
    generalize stepT room seen l nm by_ = l' at *
    clear hdo hE
    have h1' : (64 : Int) < nm.size := by omega
    go_enter Tryz.func65, Tryz.ntmps65
    go_wp2_with fail
    go_ret
    exact ⟨rfl, A, n, c, hT, Only.refl _ _, .inl rfl⟩
  have h1' : ¬ (64 : Int) < nm.size := by omega
  by_cases h2 : by_ = 0
  · rw [if_pos (.inr h2)] at hE
    have hT := hdo (by omega)
    rw [hE]
    generalize stepS seen nm by_ = s' at *
    generalize stepT room seen l nm by_ = l' at *
    clear hdo hE
    subst h2
    go_enter Tryz.func65, Tryz.ntmps65
    go_wp2_with fail
    go_ret
    exact ⟨rfl, A, n, c, hT, Only.refl _ _, .inl rfl⟩
  have h2' : ((by_ : Int) == 0) = false := by simp; omega
  rw [if_neg (by rw [not_or]; exact ⟨h1, h2⟩)] at hE
  by_cases h3 : 4611686018427387904 - seen < by_
  · rw [if_pos h3] at hE
    have hT := hdo (by omega)
    rw [hE]
    generalize stepS seen nm by_ = s' at *
    generalize stepT room seen l nm by_ = l' at *
    clear hdo hE
    by_cases h4 : 4611686018427387904 < by_
    · have h4' : (4611686018427387904 : Int) < by_ := by omega
      go_enter Tryz.func65, Tryz.ntmps65
      go_wp2_with fail
      go_ret
      exact ⟨rfl, A, n, c, hT, Only.refl _ _, .inl rfl⟩
    · have h4' : ¬ (4611686018427387904 : Int) < by_ := by omega
      have h5 : IntKind.u64.wrap ((seen : Int) + by_) = (seen : Int) + by_ := by simp [IntKind.wrap, IntKind.bits, IntKind.signed]; omega
      have h6 : (4611686018427387904 : Int) < (seen : Int) + by_ := by omega
      go_enter Tryz.func65, Tryz.ntmps65
      go_wp2_with fail
      go_ret
      exact ⟨rfl, A, n, c, hT, Only.refl _ _, .inl rfl⟩
  rw [if_neg h3] at hE
  have h4' : ¬ (4611686018427387904 : Int) < by_ := by omega
  have h5 : IntKind.u64.wrap ((seen : Int) + by_) = ((seen + by_ : Nat) : Int) := by simp [IntKind.wrap, IntKind.bits, IntKind.signed]; omega
  have h6 : ¬ (4611686018427387904 : Int) < ((seen + by_ : Nat) : Int) := by omega
  have hs : stepS seen nm by_ = seen + by_ := if_pos hE
  have hl : stepT room seen l nm by_ = addT room l nm by_ := if_pos hE
  rw [hE, hs, hl]
  obtain ⟨T1, O1⟩ := T.seen' (seen + by_) (by omega)
  have HSUM := Lib.hid I.sum
  have hsb : seen + by_ ≤ 4611686018427387904 := by omega
  clear hdo hE hs hl I c2 f2
  have c2 : w.cell? ⟨g, 2, none⟩ = some (.int .u64 seen) := T.blk.cellAt 2 rfl
  have f2 := T.blk.frozen 2
  go_enter Tryz.func65, Tryz.ntmps65
  go_upto_region 6 with fail
  have ec : ((seen + by_ : Nat) : Int) = (seen : Int) + by_ := Int.natCast_add _ _
  rw [ec] at T1 O1
  generalize (w.setCell ⟨g, 2, none⟩ (.int .u64 ((seen : Int) + by_))) = w1 at *
  have HT := Lib.hid T
  have HT1 := Lib.hid T1
  have c0 : w1.cell? ⟨g, 0, none⟩ = some (.slice A n c) := T1.blk.cellAt 0 rfl
  have hlt1 := T1.blk.lt
  have hln := T1.its.len
  have hn16 : n ≤ 16 := by have := T1.ln; have := T1.rm; omega
  clear T T1 c2 f2 hlt h5 h6 h4' h2' h1' ec
  go_wp2_with fail
  go_loopw [7] (fun i wr => ∃ j : Nat, j ≤ n ∧ i = .int .i64 j ∧ wr = w1 ∧ Hid (∀ q, q < j → (l.getD q default).name.data.toList ≠ nm.data.toList)) (fun i _ => n - (intOf i).toNat)
  case atStart => exact ⟨0, Nat.zero_le _, rfl, rfl, Lib.hid (fun q h => by omega)⟩
  case round =>
    obtain ⟨j, hj, rfl, rfl, HN⟩ := hrel
    by_cases hjn : j < n
    · obtain ⟨r, rfl, hr0, hr1, hrc, hcell⟩ := HT1.out.its.row (by omega)
      obtain ⟨x0, x1, x2⟩ := hcell j hjn
      have hmy : (l.getD j default).many ≤ seen := by
        rw [it_get l j (by omega), ← HSUM.out]
        exact mem_le_sum (List.getElem_mem _)
      clear hcell
      generalize hX : l.getD j default = X at *
      have HX := Lib.hid hX
      clear hX
      have hj1 : (j : Int) < n := by omega
      by_cases hname : X.name.data.toList = nm.data.toList
      · have hq : (X.name.toList == nm.toList) = true := by rw [Lib.toList_data, Lib.toList_data]; simpa using hname
        have hkj : findI l nm = some j := findI_at (by omega) (by rw [HX.out]; exact hname) HN.out
        have hset : l.set j ⟨(l.getD j default).name, (l.getD j default).many + by_, (l.getD j default).over⟩ = addT room l nm by_ := by unfold addT; rw [hkj]
        rw [HX.out] at hset
        have h6 : IntKind.u64.wrap ((X.many : Int) + by_) = (X.many : Int) + by_ := by simp [IntKind.wrap, IntKind.bits, IntKind.signed]; omega
        have HSET := Lib.hid hset
        clear hname hkj hset HN
        go_upto_region 10 with fail
        go_still_tail 17, (by kernel_rfl)
        change wpList _ _ _ _ _ wr.drew
        have hBd : Below wr.heap.size wr wr.drew := bdrew (Below.refl _ _)
        have T2 := HT1.out.step hBd
        obtain ⟨T3, O3⟩ := T2.many' j hjn (X.many + by_) (by omega)
        rw [HX.out, HSET.out] at T3
        have fz := T2.its.own.frozenAt (j * 3 + 1)
        have x1' : wr.drew.cell? ⟨r, j * 3 + 1, none⟩ = some (.int .u64 X.many) := x1
        have lr : r < wr.drew.heap.size := hr1
        have ec : ((X.many + by_ : Nat) : Int) = (X.many : Int) + by_ := Int.natCast_add _ _
        rw [ec] at T3 O3
        clear T2 x0 x1 x2 c0
        generalize wr.drew = w2 at *
        go_wp2_with fail
        go_ret
        refine ⟨rfl, _, n, c, T3, ?_, .inl rfl⟩
        refine ((O1.mono (S' := mine g (.slice (some ⟨r, 0, none⟩) n c)) (fun i _ h => .inl h)).step hBd).trans (O3.mono (fun i _ h => .inr (by rw [h]; rfl)))
      · have hq : (X.name.toList == nm.toList) = false := by rw [Lib.toList_data, Lib.toList_data]; simpa using hname
        have HN2 : Hid (∀ q, q < j + 1 → (l.getD q default).name.data.toList ≠ nm.data.toList) := Lib.hid (fun q hq2 => by
          rcases Nat.lt_or_ge q j with h1 | h1
          · exact HN.out q h1
          · obtain rfl : q = j := by omega
            rw [HX.out]; exact hname)
        clear hname HN
        go_wp2_with fail
        exact ⟨⟨j + 1, by omega, by go_num, by first | trivial | rfl, HN2⟩, by simp [intOf]; omega⟩
    · have hkn : findI l nm = none := findI_no (fun q hq => HN.out q (by omega))
      have c1 : wr.cell? ⟨g, 1, none⟩ = some (.int .i64 room) := HT1.out.blk.cellAt 1 rfl
      have hjn' : ¬ (j : Int) < n := by omega
      have HKN := Lib.hid hkn
      clear HN hkn hjn
      go_wp2_with fail
      have hjn2 := j
      by_cases hroom : n < room
      · have hr1 : (n : Int) < room := by omega
        go_quiet (fail)
        have hBd : Below wr.heap.size wr (wr.drewN nq) := bdrewN (Below.refl _ _) nq
        have T2 := HT1.out.step hBd
        have hown := T2.its.own
        have cgd : (wr.drewN nq).cell? ⟨g, 0, none⟩ = some (.slice A n c) := T2.blk.cellAt 0 rfl
        have hg3 : g < (wr.drewN nq).heap.size := hlt1
        have hbase : base ≤ (wr.drewN nq).heap.size := by have h1 := T2.g0; have h2 := T2.blk.lt; omega
        obtain ⟨i0, hi0, hz0, hz1, hz2⟩ := info_parts info_ritem
        clear c0 c1
        generalize wr.drewN nq = wq at *
        go_wp2_with (first
          | (at_builtin
             refine wpList_append_own_at _ rfl _ _ 52 rfl base 109 i0 _ 3 32 Tryz.underlying52 hi0 hz0 hz1 hz2 rfl (by omega) (.slice A n c) n (flat l) rfl (hown.alloc _) ⟨wq.heap.size, 0, none⟩ 1 1 (encI ⟨nm, by_, 0⟩) rfl rfl (news_item (Blk.new wq _ _)) (by intro u hu; simp only [encI, List.mem_cons, List.not_mem_nil, or_false] at hu; rcases hu with rfl | rfl | rfl <;> rfl) (by simp only [maxLen]; omega) (by omega) (by simp; omega) ?_
             intro v' w5 hown5 hG5 hnil5 hat5
             obtain ⟨A', c', rfl⟩ := own_form hown5
             have hB5 := Blk.grown hG5 (T2.blk.alloc _) (T2.its.far T2.blk (by decide))
             have f5 := hB5.frozen 0
             have cg5 : w5.cell? ⟨g, 0, none⟩ = some (.slice A n c) := hB5.cellAt 0 rfl))
        go_ret
        have hadd : addT room l nm by_ = l ++ [⟨nm, by_, 0⟩] := by
          unfold addT
          rw [HKN.out]
          simp only
          rw [if_pos (by omega)]
        have hI5 : RIts w5 base A' (n + 1) c' (l ++ [⟨nm, by_, 0⟩]) := ⟨by rw [flat_append]; exact hown5⟩
        have hfar5 := hI5.far hB5 (by decide)
        have hP := hB5.put 0 (.slice A' (n + 1) c')
        have hG6 : w5.grownBy (w5.setCell ⟨g, 0, none⟩ (.slice A' (n + 1) c')) (some g) := only_setCell (only_refl _ _) (.inl rfl) _
        refine ⟨rfl, A', n + 1, c', ?_, ?_, ?_⟩
        · rw [hadd]
          refine ⟨hP, ⟨hI5.own.kept hG6 (.inr (fun e => hfar5 e.symm))⟩, T2.g0, T2.rm, hroom, T2.sn, ?_⟩
          intro x hx
          rcases List.mem_append.1 hx with h1 | h1
          · exact T2.bd x h1
          · rw [List.mem_singleton] at h1
            subst h1
            exact ⟨by show by_ ≤ _; omega, Nat.zero_le _⟩
        · exact ((((O1.mono (S' := mine g (.slice A n c)) (fun i _ h => .inl h)).step hBd).step (balloc (Below.refl _ _) _)).grown hG5 (fun i hi => .inl (.inr hi.symm))).grown hG6 (fun i hi => by cases hi; exact .inl (.inl rfl))
        · rcases hat5 with h | h
          · exact .inl h
          · refine .inr ⟨_, h, ?_⟩
            have h1 := O1.size
            have h2 := hBd.size
            simp
            omega
      · have hr1 : ¬ (n : Int) < room := by omega
        go_quiet (fail)
        have hBd : Below wr.heap.size wr (wr.drewN nq) := bdrewN (Below.refl _ _) nq
        have T2 := HT1.out.step hBd
        have hn0 : 0 < n := by have := T2.rm; omega
        have hl0 : l ≠ [] := fun e => by rw [e] at hln; simp at hln; omega
        have hwl : worst l < n := by rw [← hln]; exact worst_lt l hl0
        have hadd : addT room l nm by_ = l.set (worst l) ⟨nm, (l.getD (worst l) default).many + by_, (l.getD (worst l) default).many⟩ := by
          unfold addT
          rw [HKN.out]
          simp only
          rw [if_neg (by omega)]
        have hmy : (l.getD (worst l) default).many ≤ seen := by
          rw [it_get l _ (by omega), ← HSUM.out]
          exact mem_le_sum (List.getElem_mem _)
        have HADD := Lib.hid hadd
        have HT2 := Lib.hid T2
        clear c0 c1 hadd hl0
        generalize wr.drewN nq = wq at *
        have HW := Lib.hid (rworst_call T2)
        generalize hwi : worst l = wi at *
        have HWI := Lib.hid hwi
        clear hwi T2
        go_upto_region 16 with (go_at_call 84; refine HW.out.mono ?_; rintro e w3 ⟨rfl, m, hm⟩; have hb3 : Below wq.heap.size wq w3 := (by rw [hm]; exact bdrewN (Below.refl _ _) m); clear hm)
        have T3 := HT2.out.step hb3
        obtain ⟨r, rfl, hr0, hrlt, hrc, hcell⟩ := T3.its.row hn0
        obtain ⟨y0, y1, y2⟩ := hcell wi (by omega)
        have cg : w3.cell? ⟨g, 0, none⟩ = some (.slice (some ⟨r, 0, none⟩) n c) := T3.blk.cellAt 0 rfl
        have hg3 := T3.blk.lt
        generalize hM : (l.getD wi default).many = wm at *
        have HM := Lib.hid hM
        have HT3 := Lib.hid T3
        have hw1 : (wi : Int) < n := by omega
        have h6 : IntKind.u64.wrap ((wm : Int) + by_) = (wm : Int) + by_ := by simp [IntKind.wrap, IntKind.bits, IntKind.signed]; omega
        clear hM hcell T3
        go_still_tail 26, (by kernel_rfl)
        change wpList _ _ _ _ _ w3.drew
        have hb4 : Below w3.heap.size w3 w3.drew := bdrew (Below.refl _ _)
        have T4 := HT3.out.step hb4
        have hown := T4.its.own
        have v0 : w3.drew.cell? ⟨r, wi * 3, none⟩ = some (.string (l.getD wi default).name) := y0
        have v1 : w3.drew.cell? ⟨r, wi * 3 + 1, none⟩ = some (.int .u64 wm) := y1
        have v2 : w3.drew.cell? ⟨r, wi * 3 + 2, none⟩ = some (.int .u64 (l.getD wi default).over) := y2
        have lr : r < w3.drew.heap.size := hrlt
        have z0 := hown.frozenAt (wi * 3)
        obtain ⟨o1, g1⟩ := hown.stored (wi * 3) (.string nm)
        have z1 := o1.frozenAt (wi * 3 + 1)
        obtain ⟨o2, g2⟩ := o1.stored (wi * 3 + 1) (.int .u64 ((wm : Int) + by_))
        have z2 := o2.frozenAt (wi * 3 + 2)
        obtain ⟨o3, g3⟩ := o2.stored (wi * 3 + 2) (.int .u64 wm)
        have HT4 := Lib.hid T4
        clear T4 y0 y1 y2 cg hg3 hown
        generalize w3.drew = w4 at *
        go_wp2_with fail
        go_ret
        have hset : (((flat l).set (wi * 3) (.string nm)).set (wi * 3 + 1) (.int .u64 ((wm : Int) + by_))).set (wi * 3 + 2) (.int .u64 wm) = flat (l.set wi ⟨nm, wm + by_, wm⟩) := (flat_set l wi ⟨nm, wm + by_, wm⟩ (by omega)).symm
        have hg123 := (g1.trans g2).trans g3
        have hfar := HT4.out.its.far HT4.out.blk (by decide)
        refine ⟨rfl, some ⟨r, 0, none⟩, n, c, ?_, ?_, .inl rfl⟩
        · rw [HADD.out]
          refine ⟨HT4.out.blk.grown hg123 (by simpa [Value.ownBlock] using hfar), ⟨by rw [← hset]; exact o3⟩, HT4.out.g0, HT4.out.rm, HT4.out.ln, HT4.out.sn, ?_⟩
          intro x hx
          rcases mem_set_it (by omega) hx with rfl | ⟨q, hq, _, rfl⟩
          · exact ⟨by show wm + by_ ≤ _; omega, by show wm ≤ _; omega⟩
          · exact HT4.out.bd _ (List.getElem_mem _)
        · exact ((((O1.mono (S' := mine g (.slice (some ⟨r, 0, none⟩) n c)) (fun i _ h => .inl h)).step hBd).step hb3).step hb4).andThen (Only.of_grown hg123 (S := fun i => i = r) (fun i hi => by cases hi; rfl)) (fun i _ h => .inr (by rw [h]; rfl))
end Go.Proofs.YtapiehddcdnadaaGreatDoor
namespace Go.Proofs.YtapiehddcdnadaaGreatDoor
open Go.RowKit
set_option linter.unusedVariables false
set_option linter.unusedSimpArgs false

theorem RIts.itRow {w : World} {base : Nat} {A : Option Addr} {n c : Nat} {l : List It} (h : RIts w base A n c l) : ItRow w A n l := ⟨h.len, fun hn => by
  obtain ⟨r, rfl, _, hr, _, hc⟩ := h.row hn
  exact ⟨r, 0, rfl, hr, fun i hi => by rw [Nat.zero_add]; exact hc i hi⟩⟩
theorem eqAR (d : Nat) (x y : ByteArray) (x1 y1 x2 y2 : Int) (w : World) :
    (Op.equalIn (d + 2) 109 (.agg #[.string x, .int .u64 x1, .int .u64 x2]) (.agg #[.string y, .int .u64 y1, .int .u64 y2])).run Tryz.prog w = .ok (x.toList == y.toList && (x1 == y1 && (x2 == y2 && true))) w := by
  refine struct_eq Tryz.underlying109 (by kernel_rfl) ?_
  refine fields_cons (by rfl) (by go_simp; rfl) (by go_simp; rfl) (by go_simp) ?_
  refine fields_cons (by rfl) (by go_simp; rfl) (by go_simp; rfl) (by go_simp) ?_
  exact fields_cons (by rfl) (by go_simp; rfl) (by go_simp; rfl) (by go_simp) fields_nil
theorem eqR (x y : ByteArray) (x1 y1 x2 y2 : Int) (w : World) :
    (Op.equalIn 10000 109 (.agg #[.string x, .int .u64 x1, .int .u64 x2]) (.agg #[.string y, .int .u64 y1, .int .u64 y2])).run Tryz.prog w = .ok (x.toList == y.toList && (x1 == y1 && (x2 == y2))) w := by
  have h := eqAR 9998 x y x1 y1 x2 y2 w
  rw [Bool.and_true] at h
  exact h
theorem guardR : Tryz.prog.eqGuardType Tryz.prog.depth 109 = false := by kernel_rfl
attribute [local go_sem high] eqR
theorem neqR (x : ByteArray) (a b : Int) (w : World) : (binOp .neq 109 (.agg #[.string x, .int .u64 a, .int .u64 b]) (.agg #[.string x, .int .u64 a, .int .u64 b])).run Tryz.prog w = .ok (.bool false) w := by
  go_simp
attribute [local go_sem high] neqR

end Go.Proofs.YtapiehddcdnadaaGreatDoor
namespace Go.Proofs.YtapiehddcdnadaaGreatDoor
open Go.RowKit
set_option linter.unusedVariables false
set_option linter.unusedSimpArgs false

theorem take_snocI (l : List It) (j : Nat) (h : j < l.length) : l.take (j + 1) = l.take j ++ [l.getD j default] := by
  rw [List.take_succ_eq_append_getElem h, it_get l j h]

/-- append as one step of a region that draws. -/
theorem step_appI {P : Program} {w : World} {ops : Array Oper} {o : Oper} {a : Act} {K : Act → World → Prop} {Q : Exit → Act → World → Prop} {E : Prop} (hgd : o.guard = none) (s x : Operand) (t : TypeId)
    (ho : o.op = .call { callee := .builtin .append, args := #[s, x], argTypes := #[t, t] })
    (base : Nat) (e : TypeId) (i : TypeInfo) (z : Value) (size bytes : Nat) (ht : P.underlying t = some (.slice e)) (hi : P.info? e = some i) (hz : i.zero = some z)
    (hsize : i.size = size) (hby : i.bytes = bytes) (hzs : z.cells.size = size) (hsz : 0 < size)
    (v : Value) (n : Nat) (xs : List Value) (hs : a.eval s = v) (hown : w.ownsRow base e size v n xs)
    (ad : Addr) (m c : Nat) (news : List Value) (hx : a.eval x = .slice (some ad) m c) (hl : news.length = m * size) (hnews : ∀ j u, news[j]? = some u → w.cell? (ad.add j) = some u) (h1 : ∀ u ∈ news, u.oneCell' = true)
    (h63 : n + m ≤ maxLen) (hbytes : (n + m) * bytes ≤ 140737488355328) (hbase : base ≤ w.heap.size)
    (h : ∀ v' w', w'.ownsRow base e size v' (n + m) (xs ++ news) → w.grownBy w' v.ownBlock → K (a.put o.dst v') w') :
    if Region.wanted o (yielded ops a.tmps) = true then Oper.wp P o a w K Q else E := by
  have hw : Region.wanted o (yielded ops a.tmps) = true := by simp [Region.wanted, hgd]
  rw [if_pos hw]
  obtain ⟨v', w', hr, h2, h3, h4, h5⟩ := run_append_own_at (P := P) w base t o.type e i z size bytes ht hi hz hsize hby hzs hsz v n xs hown ad m c news hl hnews h1 h63 hbytes hbase
  unfold Oper.wp execOp
  simp only [ho, resolve, invoke, builtin, Sem.run_bind, Sem.run_pure, Result.andThen_ok, List.map_toArray, List.map_cons, List.map_nil, hs, hx, hr]
  exact h v' w' h2 h3

end Go.Proofs.YtapiehddcdnadaaGreatDoor
namespace Go.Proofs.YtapiehddcdnadaaGreatDoor
open Go.RowKit
set_option linter.unusedVariables false
set_option linter.unusedSimpArgs false

theorem tw_take (p : It → Bool) : ∀ (l : List It) (a : Nat), a ≤ l.length → (∀ q, q < a → p (l.getD q default) = true) → (a = l.length ∨ p (l.getD a default) = false) → l.takeWhile p = l.take a ∧ l.dropWhile p = l.drop a
  | [], a, h, _, _ => by simp at h; subst h; simp
  | x :: l, 0, _, _, h2 => by
    rcases h2 with h2 | h2
    · simp at h2
    · have hx : p x = false := h2
      simp [List.takeWhile_cons, List.dropWhile_cons, hx]
  | x :: l, a + 1, h, h1, h2 => by
    have hx : p x = true := h1 0 (by omega)
    have ih := tw_take p l a (by simpa using h) (fun q hq => by have := h1 (q + 1) (by omega); rwa [List.getD_cons_succ] at this) (by
      rcases h2 with h2 | h2
      · exact .inl (by simpa using h2)
      · rw [List.getD_cons_succ] at h2; exact .inr h2)
    rw [List.takeWhile_cons, List.dropWhile_cons, hx]
    simp [ih.1, ih.2]
theorem insT_at (s : List It) (x : It) (a : Nat) (h : a ≤ s.length) (h1 : ∀ q, q < a → ahead (s.getD q default) x = true) (h2 : a = s.length ∨ ahead (s.getD a default) x = false) : insT s x = s.take a ++ x :: s.drop a := by
  obtain ⟨e1, e2⟩ := tw_take (fun y => ahead y x) s a h h1 h2
  unfold insT
  rw [e1, e2]

theorem run_app0 {P : Program} {w : World} (t ty e : TypeId) (i : TypeInfo) (ht : P.underlying t = some (.slice e)) (hi : P.info? e = some i) {base size : Nat} {A : Option Addr} {n c : Nat} {xs : List Value} (h : w.ownsRow base e size (.slice A n c) n xs) (c2 : Nat) :
    (Builtin.append_ #[t, t] ty #[.slice A n c, .slice none 0 c2]).run P w = .ok (.slice A n c) w := by
  rcases h.2 with ⟨h0, rfl⟩ | ⟨g, cap, cur, h0, _, _, hnc, _⟩ <;> rw [h0]
  · simp [Builtin.append_, run_underlying ht, sizeOf, typeInfo, hi, Builtin.lenOf, Builtin.firstCells]
  · simp [Builtin.append_, run_underlying ht, sizeOf, typeInfo, hi, Builtin.lenOf, Builtin.firstCells, hnc, storeCells]
theorem wpList_app0 {P : Program} {w : World} {ops : Array Oper} {rest : List Oper} {o : Oper} {a : Act} {Q : Exit → Act → World → Prop} (hgd : o.guard = none) (s x : Operand) (t : TypeId)
    (ho : o.op = .call { callee := .builtin .append, args := #[s, x], argTypes := #[t, t] }) (e : TypeId) (i : TypeInfo) (ht : P.underlying t = some (.slice e)) (hi : P.info? e = some i)
    (base size : Nat) (A : Option Addr) (n c : Nat) (xs : List Value) (h : w.ownsRow base e size (.slice A n c) n xs) (hsv : a.eval s = .slice A n c) (c2 : Nat) (hxv : a.eval x = .slice none 0 c2)
    (hK : wpList P ops Q rest (a.put o.dst (.slice A n c)) w) : wpList P ops Q (o :: rest) a w := by
  refine wpList_plain hgd fun K hk => ?_
  have hr := run_app0 (P := P) t o.type e i ht hi h c2
  unfold Oper.wp execOp
  simp only [ho, resolve, invoke, builtin, Sem.run_bind, Sem.run_pure, Result.andThen_ok, List.map_toArray, List.map_cons, List.map_nil, hsv, hxv, hr]
  exact hk _ _ hK
end Go.Proofs.YtapiehddcdnadaaGreatDoor

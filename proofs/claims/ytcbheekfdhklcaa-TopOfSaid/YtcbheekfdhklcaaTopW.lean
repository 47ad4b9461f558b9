/- The reference's Add. -/
import Derived.Test.YtcbheekfdhklcaaTopY2
import Derived.StillTailTactics
namespace Go.Proofs.Ytcbheekfdhklcaa
open Go.RowKit
set_option linter.unusedVariables false
set_option linter.unusedSimpArgs false

theorem info_ritem : (Try.prog.info? 52).map (fun i => (i.zero, i.size, i.bytes)) = some (some (.agg #[.string ⟨#[]⟩, .int .u64 0, .int .u64 0]), 3, 32) := by kernel_rfl

set_option maxRecDepth 100000 in
set_option maxHeartbeats 2000000 in
theorem radd_call (base g : Nat) (room seen : Nat) (A : Option Addr) (n c : Nat) (l : List It) (nm : ByteArray) (by_ : Nat) (hb : by_ < 18446744073709551616) (hnm : nm.size ≤ 140737488355328) (w : World) (T : Rp w base g room seen A n c l) (I : Inv room seen l) :
    Calls Try.prog 17 #[.pointer (some ⟨g, 0, none⟩), .string nm, .int .u64 by_] w fun e w' => e = .returned (.int .i64 (addE seen nm by_)) ∧ ∃ A' n' c', Rp w' base g room (stepS seen nm by_) A' n' c' (stepT room seen l nm by_) ∧
      Only w w' (mine g (.slice A n c)) ∧ RowNew w (.slice A n c) (.slice A' n' c') := by
  have hlt := T.blk.lt
  have hsn := T.sn
  have c2 : w.cell? ⟨g, 2, none⟩ = some (.int .u64 seen) := T.blk.cellAt 2 rfl
  have f2 := T.blk.frozen 2
  have hE : addE seen nm by_ = if 64 < nm.size ∨ by_ = 0 then 1 else if 4611686018427387904 - seen < by_ then 7 else 0 := rfl
  have hdo : addE seen nm by_ ≠ 0 → Rp w base g room (stepS seen nm by_) A n c (stepT room seen l nm by_) := fun h => by
    unfold stepS stepT
    rw [if_neg h, if_neg h]
    exact T
  by_cases h1 : 64 < nm.size
  · rw [if_pos (.inl h1)] at hE
    have hT := hdo (by omega)
    rw [hE]
    generalize stepS seen nm by_ = s' at *
    generalize stepT room seen l nm by_ = l' at *
    clear hdo hE
    have h1' : (64 : Int) < nm.size := by omega
    go_enter Try.func17, Try.ntmps17
    go_wp2_with fail
    go_ret
    exact ⟨rfl, A, n, c, hT, Only.refl _ _, .inl rfl⟩
  have h1' : ¬ (64 : Int) < nm.size := by omega
  by_cases h2 : by_ = 0
  · rw [if_pos (.inr h2)] at hE
    have hT := hdo (by omega)
    rw [hE]
    generalize stepS seen nm by_ = s' at *
    generalize stepT room seen l nm by_ = l' at *
    clear hdo hE
    subst h2
    go_enter Try.func17, Try.ntmps17
    go_wp2_with fail
    go_ret
    exact ⟨rfl, A, n, c, hT, Only.refl _ _, .inl rfl⟩
  have h2' : ((by_ : Int) == 0) = false := by simp; omega
  rw [if_neg (by rw [not_or]; exact ⟨h1, h2⟩)] at hE
  by_cases h3 : 4611686018427387904 - seen < by_
  · rw [if_pos h3] at hE
    have hT := hdo (by omega)
    rw [hE]
    generalize stepS seen nm by_ = s' at *
    generalize stepT room seen l nm by_ = l' at *
    clear hdo hE
    by_cases h4 : 4611686018427387904 < by_
    · have h4' : (4611686018427387904 : Int) < by_ := by omega
      go_enter Try.func17, Try.ntmps17
      go_wp2_with fail
      go_ret
      exact ⟨rfl, A, n, c, hT, Only.refl _ _, .inl rfl⟩
    · have h4' : ¬ (4611686018427387904 : Int) < by_ := by omega
      have h5 : IntKind.u64.wrap ((seen : Int) + by_) = (seen : Int) + by_ := by simp [IntKind.wrap, IntKind.bits, IntKind.signed]; omega
      have h6 : (4611686018427387904 : Int) < (seen : Int) + by_ := by omega
      go_enter Try.func17, Try.ntmps17
      go_wp2_with fail
      go_ret
      exact ⟨rfl, A, n, c, hT, Only.refl _ _, .inl rfl⟩
  rw [if_neg h3] at hE
  have h4' : ¬ (4611686018427387904 : Int) < by_ := by omega
  have h5 : IntKind.u64.wrap ((seen : Int) + by_) = ((seen + by_ : Nat) : Int) := by simp [IntKind.wrap, IntKind.bits, IntKind.signed]; omega
  have h6 : ¬ (4611686018427387904 : Int) < ((seen + by_ : Nat) : Int) := by omega
  have hs : stepS seen nm by_ = seen + by_ := if_pos hE
  have hl : stepT room seen l nm by_ = addT room l nm by_ := if_pos hE
  rw [hE, hs, hl]
  obtain ⟨T1, O1⟩ := T.seen' (seen + by_) (by omega)
  have HSUM := Lib.hid I.sum
  have hsb : seen + by_ ≤ 4611686018427387904 := by omega
  clear hdo hE hs hl I c2 f2
  have c2 : w.cell? ⟨g, 2, none⟩ = some (.int .u64 seen) := T.blk.cellAt 2 rfl
  have f2 := T.blk.frozen 2
  go_enter Try.func17, Try.ntmps17
  go_upto_region 6 with fail
  have ec : ((seen + by_ : Nat) : Int) = (seen : Int) + by_ := Int.natCast_add _ _
  rw [ec] at T1 O1
  generalize (w.setCell ⟨g, 2, none⟩ (.int .u64 ((seen : Int) + by_))) = w1 at *
  have HT := Lib.hid T
  have HT1 := Lib.hid T1
  have c0 : w1.cell? ⟨g, 0, none⟩ = some (.slice A n c) := T1.blk.cellAt 0 rfl
  have hlt1 := T1.blk.lt
  have hln := T1.its.len
  have hn16 : n ≤ 16 := by have := T1.ln; have := T1.rm; omega
  clear T T1 c2 f2 hlt h5 h6 h4' h2' h1' ec
  go_wp2_with fail
  go_loopw [7] (fun i wr => ∃ j : Nat, j ≤ n ∧ i = .int .i64 j ∧ wr = w1 ∧ Hid (∀ q, q < j → (l.getD q default).name.data.toList ≠ nm.data.toList)) (fun i _ => n - (intOf i).toNat)
  case atStart => exact ⟨0, Nat.zero_le _, rfl, rfl, Lib.hid (fun q h => by omega)⟩
  case round =>
    obtain ⟨j, hj, rfl, rfl, HN⟩ := hrel
    by_cases hjn : j < n
    · obtain ⟨r, rfl, hr0, hr1, hrc, hcell⟩ := HT1.out.its.row (by omega)
      obtain ⟨x0, x1, x2⟩ := hcell j hjn
      have hmy : (l.getD j default).many ≤ seen := by
        rw [it_get l j (by omega), ← HSUM.out]
        exact mem_le_sum (List.getElem_mem _)
      clear hcell
      generalize hX : l.getD j default = X at *
      have HX := Lib.hid hX
      clear hX
      have hj1 : (j : Int) < n := by omega
      by_cases hname : X.name.data.toList = nm.data.toList
      · have hq : (X.name.toList == nm.toList) = true := by rw [Lib.toList_data, Lib.toList_data]; simpa using hname
        have hkj : findI l nm = some j := findI_at (by omega) (by rw [HX.out]; exact hname) HN.out
        have hset : l.set j ⟨(l.getD j default).name, (l.getD j default).many + by_, (l.getD j default).over⟩ = addT room l nm by_ := by unfold addT; rw [hkj]
        rw [HX.out] at hset
        have h6 : IntKind.u64.wrap ((X.many : Int) + by_) = (X.many : Int) + by_ := by simp [IntKind.wrap, IntKind.bits, IntKind.signed]; omega
        have HSET := Lib.hid hset
        clear hname hkj hset HN
        go_upto_region 10 with fail
        go_still_tail 17, (by kernel_rfl)
        change wpList _ _ _ _ _ wr.drew
        have hBd : Below wr.heap.size wr wr.drew := bdrew (Below.refl _ _)
        have T2 := HT1.out.step hBd
        obtain ⟨T3, O3⟩ := T2.many' j hjn (X.many + by_) (by omega)
        rw [HX.out, HSET.out] at T3
        have fz := T2.its.own.frozenAt (j * 3 + 1)
        have x1' : wr.drew.cell? ⟨r, j * 3 + 1, none⟩ = some (.int .u64 X.many) := x1
        have lr : r < wr.drew.heap.size := hr1
        have ec : ((X.many + by_ : Nat) : Int) = (X.many : Int) + by_ := Int.natCast_add _ _
        rw [ec] at T3 O3
        clear T2 x0 x1 x2 c0
        generalize wr.drew = w2 at *
        go_wp2_with fail
        go_ret
        refine ⟨rfl, _, n, c, T3, ?_, .inl rfl⟩
        refine ((O1.mono (S' := mine g (.slice (some ⟨r, 0, none⟩) n c)) (fun i _ h => .inl h)).step hBd).trans (O3.mono (fun i _ h => .inr (by rw [h]; rfl)))
      · have hq : (X.name.toList == nm.toList) = false := by rw [Lib.toList_data, Lib.toList_data]; simpa using hname
        have HN2 : Hid (∀ q, q < j + 1 → (l.getD q default).name.data.toList ≠ nm.data.toList) := Lib.hid (fun q hq2 => by
          rcases Nat.lt_or_ge q j with h1 | h1
          · exact HN.out q h1
          · obtain rfl : q = j := by omega
            rw [HX.out]; exact hname)
        clear hname HN
        go_wp2_with fail
        exact ⟨⟨j + 1, by omega, by go_num, by first | trivial | rfl, HN2⟩, by simp [intOf]; omega⟩
    · have hkn : findI l nm = none := findI_no (fun q hq => HN.out q (by omega))
      have c1 : wr.cell? ⟨g, 1, none⟩ = some (.int .i64 room) := HT1.out.blk.cellAt 1 rfl
      have hjn' : ¬ (j : Int) < n := by omega
      have HKN := Lib.hid hkn
      clear HN hkn hjn
      go_wp2_with fail
      have hjn2 := j
      by_cases hroom : n < room
      · have hr1 : (n : Int) < room := by omega
        go_quiet (fail)
        have hBd : Below wr.heap.size wr (wr.drewN nq) := bdrewN (Below.refl _ _) nq
        have T2 := HT1.out.step hBd
        have hown := T2.its.own
        have cgd : (wr.drewN nq).cell? ⟨g, 0, none⟩ = some (.slice A n c) := T2.blk.cellAt 0 rfl
        have hg3 : g < (wr.drewN nq).heap.size := hlt1
        have hbase : base ≤ (wr.drewN nq).heap.size := by have h1 := T2.g0; have h2 := T2.blk.lt; omega
        obtain ⟨i0, hi0, hz0, hz1, hz2⟩ := info_parts info_ritem
        clear c0 c1
        generalize wr.drewN nq = wq at *
        go_wp2_with (first
          | (at_builtin
             refine wpList_append_own_at _ rfl _ _ 48 rfl base 52 i0 _ 3 32 Try.underlying48 hi0 hz0 hz1 hz2 rfl (by omega) (.slice A n c) n (flat l) rfl (hown.alloc _) ⟨wq.heap.size, 0, none⟩ 1 1 (encI ⟨nm, by_, 0⟩) rfl rfl (news_item (Blk.new wq _ _)) (by intro u hu; simp only [encI, List.mem_cons, List.not_mem_nil, or_false] at hu; rcases hu with rfl | rfl | rfl <;> rfl) (by simp only [maxLen]; omega) (by omega) (by simp; omega) ?_
             intro v' w5 hown5 hG5 hnil5 hat5
             obtain ⟨A', c', rfl⟩ := own_form hown5
             have hB5 := Blk.grown hG5 (T2.blk.alloc _) (T2.its.far T2.blk (by decide))
             have f5 := hB5.frozen 0
             have cg5 : w5.cell? ⟨g, 0, none⟩ = some (.slice A n c) := hB5.cellAt 0 rfl))
        go_ret
        have hadd : addT room l nm by_ = l ++ [⟨nm, by_, 0⟩] := by
          unfold addT
          rw [HKN.out]
          simp only
          rw [if_pos (by omega)]
        have hI5 : RIts w5 base A' (n + 1) c' (l ++ [⟨nm, by_, 0⟩]) := ⟨by rw [flat_append]; exact hown5⟩
        have hfar5 := hI5.far hB5 (by decide)
        have hP := hB5.put 0 (.slice A' (n + 1) c')
        have hG6 : w5.grownBy (w5.setCell ⟨g, 0, none⟩ (.slice A' (n + 1) c')) (some g) := only_setCell (only_refl _ _) (.inl rfl) _
        refine ⟨rfl, A', n + 1, c', ?_, ?_, ?_⟩
        · rw [hadd]
          refine ⟨hP, ⟨hI5.own.kept hG6 (.inr (fun e => hfar5 e.symm))⟩, T2.g0, T2.rm, hroom, T2.sn, ?_⟩
          intro x hx
          rcases List.mem_append.1 hx with h1 | h1
          · exact T2.bd x h1
          · rw [List.mem_singleton] at h1
            subst h1
            exact ⟨by show by_ ≤ _; omega, Nat.zero_le _⟩
        · exact ((((O1.mono (S' := mine g (.slice A n c)) (fun i _ h => .inl h)).step hBd).step (balloc (Below.refl _ _) _)).grown hG5 (fun i hi => .inl (.inr hi.symm))).grown hG6 (fun i hi => by cases hi; exact .inl (.inl rfl))
        · rcases hat5 with h | h
          · exact .inl h
          · refine .inr ⟨_, h, ?_⟩
            have h1 := O1.size
            have h2 := hBd.size
            simp
            omega
      · have hr1 : ¬ (n : Int) < room := by omega
        go_quiet (fail)
        have hBd : Below wr.heap.size wr (wr.drewN nq) := bdrewN (Below.refl _ _) nq
        have T2 := HT1.out.step hBd
        have hn0 : 0 < n := by have := T2.rm; omega
        have hl0 : l ≠ [] := fun e => by rw [e] at hln; simp at hln; omega
        have hwl : worst l < n := by rw [← hln]; exact worst_lt l hl0
        have hadd : addT room l nm by_ = l.set (worst l) ⟨nm, (l.getD (worst l) default).many + by_, (l.getD (worst l) default).many⟩ := by
          unfold addT
          rw [HKN.out]
          simp only
          rw [if_neg (by omega)]
        have hmy : (l.getD (worst l) default).many ≤ seen := by
          rw [it_get l _ (by omega), ← HSUM.out]
          exact mem_le_sum (List.getElem_mem _)
        have HADD := Lib.hid hadd
        have HT2 := Lib.hid T2
        clear c0 c1 hadd hl0
        generalize wr.drewN nq = wq at *
        have HW := Lib.hid (rworst_call T2)
        generalize hwi : worst l = wi at *
        have HWI := Lib.hid hwi
        clear hwi T2
        go_upto_region 16 with (go_at_call 34; refine HW.out.mono ?_; rintro e w3 ⟨rfl, m, hm⟩; have hb3 : Below wq.heap.size wq w3 := (by rw [hm]; exact bdrewN (Below.refl _ _) m); clear hm)
        have T3 := HT2.out.step hb3
        obtain ⟨r, rfl, hr0, hrlt, hrc, hcell⟩ := T3.its.row hn0
        obtain ⟨y0, y1, y2⟩ := hcell wi (by omega)
        have cg : w3.cell? ⟨g, 0, none⟩ = some (.slice (some ⟨r, 0, none⟩) n c) := T3.blk.cellAt 0 rfl
        have hg3 := T3.blk.lt
        generalize hM : (l.getD wi default).many = wm at *
        have HM := Lib.hid hM
        have HT3 := Lib.hid T3
        have hw1 : (wi : Int) < n := by omega
        have h6 : IntKind.u64.wrap ((wm : Int) + by_) = (wm : Int) + by_ := by simp [IntKind.wrap, IntKind.bits, IntKind.signed]; omega
        clear hM hcell T3
        go_still_tail 26, (by kernel_rfl)
        change wpList _ _ _ _ _ w3.drew
        have hb4 : Below w3.heap.size w3 w3.drew := bdrew (Below.refl _ _)
        have T4 := HT3.out.step hb4
        have hown := T4.its.own
        have v0 : w3.drew.cell? ⟨r, wi * 3, none⟩ = some (.string (l.getD wi default).name) := y0
        have v1 : w3.drew.cell? ⟨r, wi * 3 + 1, none⟩ = some (.int .u64 wm) := y1
        have v2 : w3.drew.cell? ⟨r, wi * 3 + 2, none⟩ = some (.int .u64 (l.getD wi default).over) := y2
        have lr : r < w3.drew.heap.size := hrlt
        have z0 := hown.frozenAt (wi * 3)
        obtain ⟨o1, g1⟩ := hown.stored (wi * 3) (.string nm)
        have z1 := o1.frozenAt (wi * 3 + 1)
        obtain ⟨o2, g2⟩ := o1.stored (wi * 3 + 1) (.int .u64 ((wm : Int) + by_))
        have z2 := o2.frozenAt (wi * 3 + 2)
        obtain ⟨o3, g3⟩ := o2.stored (wi * 3 + 2) (.int .u64 wm)
        have HT4 := Lib.hid T4
        clear T4 y0 y1 y2 cg hg3 hown
        generalize w3.drew = w4 at *
        go_wp2_with fail
        go_ret
        have hset : (((flat l).set (wi * 3) (.string nm)).set (wi * 3 + 1) (.int .u64 ((wm : Int) + by_))).set (wi * 3 + 2) (.int .u64 wm) = flat (l.set wi ⟨nm, wm + by_, wm⟩) := (flat_set l wi ⟨nm, wm + by_, wm⟩ (by omega)).symm
        have hg123 := (g1.trans g2).trans g3
        have hfar := HT4.out.its.far HT4.out.blk (by decide)
        refine ⟨rfl, some ⟨r, 0, none⟩, n, c, ?_, ?_, .inl rfl⟩
        · rw [HADD.out]
          refine ⟨HT4.out.blk.grown hg123 (by simpa [Value.ownBlock] using hfar), ⟨by rw [← hset]; exact o3⟩, HT4.out.g0, HT4.out.rm, HT4.out.ln, HT4.out.sn, ?_⟩
          intro x hx
          rcases mem_set_it (by omega) hx with rfl | ⟨q, hq, _, rfl⟩
          · exact ⟨by show wm + by_ ≤ _; omega, by show wm ≤ _; omega⟩
          · exact HT4.out.bd _ (List.getElem_mem _)
        · exact ((((O1.mono (S' := mine g (.slice (some ⟨r, 0, none⟩) n c)) (fun i _ h => .inl h)).step hBd).step hb3).step hb4).andThen (Only.of_grown hg123 (S := fun i => i = r) (fun i hi => by cases hi; rfl)) (fun i _ h => .inr (by rw [h]; rfl))
end Go.Proofs.Ytcbheekfdhklcaa

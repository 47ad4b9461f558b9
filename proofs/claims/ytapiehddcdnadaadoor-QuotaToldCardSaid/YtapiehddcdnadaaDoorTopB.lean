/- place and Add. -/
import Derived.Test.YtapiehddcdnadaaDoorTopA
import Derived.Sort.Walk0
import Derived.WalkMore
import Derived.Deep.LoopGhost
namespace Go.Proofs.YtapiehddcdnadaaDoor
open Go.RowKit
set_option linter.unusedVariables false
set_option linter.unusedSimpArgs false

/-- The top at g. -/
structure Tp (w : World) (base g : Nat) (room seen : Nat) (A : Option Addr) (n c : Nat) (l : List It) : Prop where
  blk : Blk w g 83 #[.slice A n c, .int .i64 room, .int .u64 seen]
  its : Its w base A n c l
  g0 : base ≤ g
  rm : 1 ≤ room ∧ room ≤ 16
  ln : n ≤ room
  sn : seen ≤ 4611686018427387904
  bd : ∀ x ∈ l, x.many ≤ 4611686018427387904 ∧ x.over ≤ 4611686018427387904

theorem worse_iff (a b : It) : worse a b = true ↔ a.many < b.many ∨ (a.many = b.many ∧ a.name.data.toList < b.name.data.toList) := by
  unfold worse
  simp

theorem less_iff (a b : ByteArray) : Op.bytesLess a.toList b.toList = decide (a.data.toList < b.data.toList) := by
  rw [Go.Proofs.bytesLess_eq, Lib.toList_data, Lib.toList_data]

theorem findI_at {l : List It} {nm : ByteArray} {j : Nat} (hj : j < l.length) (h : (l.getD j default).name.data.toList = nm.data.toList) (hn : ∀ q, q < j → (l.getD q default).name.data.toList ≠ nm.data.toList) : findI l nm = some j := by
  unfold findI
  rw [List.findIdx?_eq_some_iff_getElem]
  refine ⟨hj, ?_, fun q hq => ?_⟩
  · rw [it_get l j hj] at h; simpa using h
  · have := hn q hq
    rw [it_get l q (by omega)] at this
    simpa using this
theorem findI_no {l : List It} {nm : ByteArray} (hn : ∀ q, q < l.length → (l.getD q default).name.data.toList ≠ nm.data.toList) : findI l nm = none := by
  unfold findI
  rw [List.findIdx?_eq_none_iff]
  intro x hx
  obtain ⟨q, hq, rfl⟩ := List.mem_iff_getElem.1 hx
  have := hn q hq
  rw [it_get l q hq] at this
  simpa using this
theorem worstTo_keep {l : List It} {j : Nat} (h : worse (l.getD j default) (l.getD (worstTo l j) default) = false) : worstTo l (j + 1) = worstTo l j := by
  show (if worse _ _ = true then _ else _) = _
  rw [h]; rfl
theorem worstTo_turn {l : List It} {j : Nat} (h : worse (l.getD j default) (l.getD (worstTo l j) default) = true) : worstTo l (j + 1) = j := by
  show (if worse _ _ = true then _ else _) = _
  rw [if_pos h]

set_option maxRecDepth 100000 in
set_option maxHeartbeats 2000000 in
theorem place_found (base g : Nat) (room seen : Nat) (A : Option Addr) (n c : Nat) (l : List It) (nm : ByteArray) (w : World) (T : Tp w base g room seen A n c l) (k : Nat) (hk : findI l nm = some k) :
    Calls Tryd.prog 41 #[.pointer (some ⟨g, 0, none⟩), .string nm] w fun e w' => e = .returned (.tuple #[.int .i64 k, .int .u64 0]) ∧ Below w.heap.size w w' := by
  have c0 : w.cell? ⟨g, 0, none⟩ = some (.slice A n c) := T.blk.cellAt 0 rfl
  have hln := T.its.len
  have hn16 : n ≤ 16 := by have := T.ln; have := T.rm; omega
  have hlt := T.blk.lt
  go_enter Tryd.func41, Tryd.ntmps41
  go_wp2_with fail
  go_step3
  go_wp2_with fail
  go_step3
  go_wp2_with fail
  go_loopw [4, 14] (fun at_ i wr => ∃ j : Nat, j ≤ n ∧ i = .int .i64 j ∧ at_ = .int .i64 (worstTo l j) ∧ Below w.heap.size w wr ∧ Hid (∀ q, q < j → (l.getD q default).name.data.toList ≠ nm.data.toList)) (fun _ i _ => n - (intOf i).toNat)
  case atStart => exact ⟨0, Nat.zero_le _, rfl, rfl, Below.refl _ _, Lib.hid (fun q h => by omega)⟩
  case round =>
    obtain ⟨j, hj, rfl, rfl, hB, HN⟩ := hrel
    by_cases hjn : j < n
    · obtain ⟨r, rfl, hr0, hr1, hrc, hcell⟩ := T.its.row (by omega)
      obtain ⟨x0, x1, x2⟩ := hcell j hjn
      have hwl : worstTo l j < n := by
        by_cases h : j = 0
        · subst h; exact hjn
        · have := worstTo_lt l j h; omega
      obtain ⟨y0, y1, y2⟩ := hcell (worstTo l j) hwl
      have e0 := (hB.cell (p := ⟨r, j * 3, none⟩) hr1).trans x0
      have e1 := (hB.cell (p := ⟨r, j * 3 + 1, none⟩) hr1).trans x1
      have e2 := (hB.cell (p := ⟨r, j * 3 + 2, none⟩) hr1).trans x2
      have f0 := (hB.cell (p := ⟨r, worstTo l j * 3, none⟩) hr1).trans y0
      have f1 := (hB.cell (p := ⟨r, worstTo l j * 3 + 1, none⟩) hr1).trans y1
      have f2 := (hB.cell (p := ⟨r, worstTo l j * 3 + 2, none⟩) hr1).trans y2
      have cg := (hB.cell (p := ⟨g, 0, none⟩) hlt).trans c0
      have hg2 : g < wr.heap.size := Nat.lt_of_lt_of_le hlt hB.size
      have hr2 : r < wr.heap.size := Nat.lt_of_lt_of_le hr1 hB.size
      clear x0 x1 x2 y0 y1 y2 hcell
      generalize hX : l.getD j default = X at *
      generalize hY : l.getD (worstTo l j) default = Y at *
      have HX := Lib.hid hX
      have HY := Lib.hid hY
      clear hX hY
      generalize hW : worstTo l j = wt at *
      have HW := Lib.hid hW
      clear hW
      have hj1 : (j : Int) < n := by omega
      have hw1 : (wt : Int) < n := by omega
      have hB2 : ∀ o1 o2, Below w.heap.size w ((wr.alloc o1).alloc o2) := fun o1 o2 => balloc (balloc hB _) _
      by_cases hname : X.name.data.toList = nm.data.toList
      · have hq : (X.name.toList == nm.toList) = true := by rw [Lib.toList_data, Lib.toList_data]; simpa using hname
        have hkj : findI l nm = some j := findI_at (by omega) (by rw [HX.out]; exact hname) HN.out
        have hkk : k = j := by rw [hkj] at hk; exact (Option.some.inj hk).symm
        have HKK := Lib.hid hkk
        clear hkk hkj hk hname
        go_wp2_with fail
        rw [Exit.noGoto_ret]
        go_ret2
        exact ⟨by rw [HKK.out]; rfl, hB2 _ _⟩
      · have hq : (X.name.toList == nm.toList) = false := by rw [Lib.toList_data, Lib.toList_data]; simpa using hname
        have HN2 : Hid (∀ q, q < j + 1 → (l.getD q default).name.data.toList ≠ nm.data.toList) := Lib.hid (fun q hq2 => by
          rcases Nat.lt_or_ge q j with h1 | h1
          · exact HN.out q h1
          · obtain rfl : q = j := by omega
            rw [HX.out]; exact hname)
        have HL := Lib.hid (less_iff X.name Y.name)
        have HV : Hid (worse X Y = (decide (X.many < Y.many) || (decide (X.many = Y.many) && decide (X.name.data.toList < Y.name.data.toList)))) := Lib.hid rfl
        have HK := Lib.hid hk
        clear hname hk HN
        rcases Nat.lt_trichotomy X.many Y.many with h1 | h1 | h1
        · have hw : worse X Y = true := by rw [HV.out]; simp [h1]
          have ht := worstTo_turn (l := l) (j := j) (by rw [HX.out, HW.out, HY.out]; exact hw)
          have HT := Lib.hid ht
          have n1 : ¬ (Y.many : Int) < X.many := by omega
          have n2 : ((X.many : Int) == Y.many) = false := by simp; omega
          clear ht hw
          go_wp2_with fail
          go_roundw
          case rel => exact ⟨j + 1, by omega, by go_num, by rw [HT.out], hB2 _ _, HN2⟩
          case measure => simp [intOf]; omega
        · cases hL2 : Op.bytesLess X.name.toList Y.name.toList
          · have hw : worse X Y = false := by
              rw [HV.out, ← HL.out, hL2]
              simp [h1]
            have HT := Lib.hid (worstTo_keep (l := l) (j := j) (by rw [HX.out, HW.out, HY.out]; exact hw))
            clear hw
            go_wp2_with fail
            go_roundw
            case rel => exact ⟨j + 1, by omega, by go_num, by rw [HT.out, HW.out], hB2 _ _, HN2⟩
            case measure => simp [intOf]; omega
          · have hw : worse X Y = true := by
              rw [HV.out, ← HL.out, hL2]
              simp [h1]
            have HT := Lib.hid (worstTo_turn (l := l) (j := j) (by rw [HX.out, HW.out, HY.out]; exact hw))
            clear hw
            go_wp2_with fail
            go_roundw
            case rel => exact ⟨j + 1, by omega, by go_num, by rw [HT.out], hB2 _ _, HN2⟩
            case measure => simp [intOf]; omega
        · have hw : worse X Y = false := by rw [HV.out]; simp; omega
          have HT := Lib.hid (worstTo_keep (l := l) (j := j) (by rw [HX.out, HW.out, HY.out]; exact hw))
          have n1 : (Y.many : Int) < X.many := by omega
          clear hw
          go_wp2_with fail
          go_roundw
          case rel => exact ⟨j + 1, by omega, by go_num, by rw [HT.out, HW.out], hB2 _ _, HN2⟩
          case measure => simp [intOf]; omega
    · obtain rfl : j = n := by omega
      have := findI_some hk
      exact absurd (this.2) (HN.out k (by omega))
end Go.Proofs.YtapiehddcdnadaaDoor

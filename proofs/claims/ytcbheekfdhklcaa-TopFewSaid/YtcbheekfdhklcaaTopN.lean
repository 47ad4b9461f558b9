/- The walk of TopFew. -/
import Derived.Test.YtcbheekfdhklcaaTopQ
import Derived.Test.YtcbheekfdhklcaaTopNp
namespace Go.Proofs.Ytcbheekfdhklcaa
open Go.RowKit
set_option linter.unusedVariables false
set_option linter.unusedSimpArgs false

def realK (k : Nat) (xs : List Int) : Nat → Nat := xs.foldl (fun R v => bump R (v.toNat % k)) (fun _ => 0)
def listK (k : Nat) (xs : List Int) : List It := xs.foldl (fun l v => addT k l (nmOf (v.toNat % k)) 1) []
theorem realK_snoc (k : Nat) (xs : List Int) (v : Int) : realK k (xs ++ [v]) = bump (realK k xs) (v.toNat % k) := by unfold realK; simp
theorem listK_snoc (k : Nat) (xs : List Int) (v : Int) : listK k (xs ++ [v]) = addT k (listK k xs) (nmOf (v.toNat % k)) 1 := by unfold listK; simp
theorem realK_le (k : Nat) (xs : List Int) : ∀ j, j ≤ xs.length → ∀ c, realK k (xs.take j) c ≤ j
  | 0, _, c => Nat.le_refl _
  | j + 1, h, c => by
    rw [take_snoc xs j (by omega), realK_snoc]
    have := realK_le k xs j (by omega) c
    unfold bump
    split <;> omega

theorem made_arr (k : Nat) : madeCells #[Value.int .u64 0] k = arrU k (fun _ => 0) := by
  apply Array.ext'
  rw [toList_madeCells_one]
  unfold arrU
  simp only [List.toList_toArray]
  refine List.ext_getElem (by simp) (fun i h1 h2 => ?_)
  simp
theorem few_take (k : Nat) (h0 : 1 ≤ k) (hk : k ≤ 16) (xs : List Int) : ∀ j, j ≤ xs.length → (nms (listK k (xs.take j))).Nodup ∧ FewInv k (realK k (xs.take j)) (listK k (xs.take j))
  | 0, _ => ⟨List.nodup_nil, FewInv.nil k⟩
  | j + 1, h => by
    obtain ⟨h1, h2⟩ := few_take k h0 hk xs j (by omega)
    rw [take_snoc xs j (by omega), realK_snoc, listK_snoc]
    exact ⟨addT_nodup h1 _ _, h2.add h1 (by omega) _ (Nat.mod_lt _ (by omega))⟩

set_option maxRecDepth 100000 in
set_option maxHeartbeats 4000000 in
theorem topFew_walk (room : Int) (a : Option Addr) (n c : Nat) (xs : List Int) (w : World) (hr : 0 ≤ room ∧ room ≤ 255) (hx : Ints .u8 w a n xs) (hlc : n ≤ c) (hl : n ≤ 140737488351232) :
    Calls Try.prog 4 #[.int .u8 room, .slice a n c] w fun e w' => e = .returned (.bool true) ∧ Below w.heap.size w w' := by
  have r1 : (1 + room % 16 : Int) = ((1 + room.toNat % 16 : Nat) : Int) := by omega
  generalize hk : 1 + room.toNat % 16 = k at *
  have hk1 : 1 ≤ k ∧ k ≤ 16 := by omega
  clear hk
  go_enter Try.func4, Try.ntmps4
  go_wp2_with fail
  refine (examples_any w).mono ?_
  rintro e w1 ⟨rfl, b1⟩
  go_wp2_with fail
  refine (tm_new (W := w) (base := w.heap.size) k hk1.1 hk1.2 b1 (Nat.le_refl _)).mono ?_
  rintro e w2 ⟨rfl, T2, b2⟩
  generalize hgg : w1.heap.size = g at *
  have k1' : ¬ (k : Int) = 0 := by omega
  have k2' : ¬ k = 0 := by omega
  have k3' : (k : Int) < 4611686018427387904 := by omega
  have hmk := run_make_row' (P := Try.prog) 38 28 (.int .u64 0) 8 Try.underlying38 info_u64 rfl .i64 .i64 k (by omega) (by omega)
  rw [made_arr] at hmk
  go_wp2_with fail
  have hgl := T2.lt
  have hge := T2.ge
  have hgw := T2.bs
  generalize hgr : w2.heap.size = gr at *
  go_loopw [10] (fun i wr => ∃ j : Nat, j ≤ n ∧ j ≤ 100 ∧ i = .int .i64 j ∧ TM w w.heap.size g k j (listK k (xs.take j)) wr ∧ Blk wr gr 28 (arrU k (realK k (xs.take j)))) (fun i _ => n - (intOf i).toNat)
  case atStart => exact ⟨0, Nat.zero_le _, Nat.zero_le _, rfl, T2.alloc _, Blk.newAt hgr⟩
  case round =>
    obtain ⟨j, hjn, hj2, rfl, T, BR⟩ := hrel
    by_cases hc : j < n ∧ j < 100
    · obtain ⟨b, off, rfl, hb, hcell⟩ := hx.at_ (by omega)
      have cb := (T.below.cell (p := ⟨b, off + j, none⟩) hb).trans (hcell j hc.1)
      have hv := hx.b8 (xs.getD j 0) (by rw [List.getD_eq_getElem?_getD, List.getElem?_eq_getElem (by rw [hx.len]; exact hc.1)]; exact List.getElem_mem _)
      have hsn := take_snoc xs j (by rw [hx.len]; exact hc.1)
      have R1 := realK_snoc k (xs.take j) (xs.getD j 0)
      have L1 := listK_snoc k (xs.take j) (xs.getD j 0)
      rw [← hsn] at R1 L1
      have HR := Lib.hid R1
      have HL := Lib.hid L1
      have hrl := realK_le k xs j (by rw [hx.len]; exact hjn) ((xs.getD j 0).toNat % k)
      clear hsn R1 L1 hcell
      generalize xs.getD j 0 = v at *
      have c1 : (j : Int) < n := by omega
      have c2 : (j : Int) < 100 := by omega
      have q2 : v % (k : Int) = ((v.toNat % k : Nat) : Int) := by rw [Int.natCast_emod, Int.toNat_of_nonneg hv.1]
      have q3 : v.tmod (k : Int) = ((v.toNat % k : Nat) : Int) := by rw [Int.tmod_eq_emod_of_nonneg hv.1]; exact q2
      have hle : v.toNat % k < k := Nat.mod_lt _ (by omega)
      generalize hlv : v.toNat % k = lv at *
      have cR := BR.cellAt lv (arrU_get k _ _ hle)
      have fR := BR.frozen lv
      have hgrl := BR.lt
      have hle2 : ((lv : Nat) : Int) < k := by omega
      generalize hrv : realK k (xs.take j) lv = rv at *
      have HRV := Lib.hid hrv
      have HLV := Lib.hid hlv
      clear hrv hlv
      have hrb : b ≠ gr := by have := BR.lt; omega
      have q4 : IntKind.u8.wrap (97 + (lv : Int)) = 97 + (lv : Int) := by simp [IntKind.wrap, IntKind.bits, IntKind.signed]; omega
      go_upto_region 13 with fail
      have T4 := T.set BR (i := lv) (by omega) (by decide) (by omega) (.int .u64 ((rv + 1 : Nat) : Int))
      have B4 := BR.put lv (.int .u64 ((rv + 1 : Nat) : Int))
      rw [arrU_set k _ (realK k (xs.take (j + 1))) lv (rv + 1) (by
        intro d hd
        rw [HR.out]
        unfold bump
        split
        · next e => rw [e, HRV.out]
        · rfl)] at B4
      have ec : ((rv + 1 : Nat) : Int) = (rv : Int) + 1 := Int.natCast_add _ _
      rw [ec] at T4 B4
      have cb4 : (wr.setCell ⟨gr, lv, none⟩ (.int .u64 ((rv : Int) + 1))).cell? ⟨b, off + j, none⟩ = some (.int .u8 v) := (T4.below.cell (p := ⟨b, off + j, none⟩) hb).trans ((T.below.cell (p := ⟨b, off + j, none⟩) hb).symm.trans cb)
      generalize (wr.setCell ⟨gr, lv, none⟩ (.int .u64 ((rv : Int) + 1))) = w3 at *
      clear T BR cb cR fR
      have hb3 : b < w3.heap.size := Nat.lt_of_lt_of_le hb T4.below.size
      have hconv := conv1 (w3.alloc (.cells #[.int .u8 (97 + (lv : Int))] 5)) w3.heap.size lv (Blk.newAt (t := 5) (cs := #[.int .u8 (97 + (lv : Int))]) rfl)
      have T5 := T4.alloc (.cells #[.int .u8 (97 + (lv : Int))] 5)
      have B5 := B4.alloc (.cells #[.int .u8 (97 + (lv : Int))] 5)
      have hz : addE j (nmOf lv) 1 = 0 := addE_ok (by rw [nmOf_size]; omega) (by omega) (by omega)
      go_wp2_with (first | (go_at_call 11; refine (tm_add (nmOf lv) 1 (by omega) (by rw [nmOf_size]; omega) T5).mono ?_; rintro e w5 ⟨rfl, T6, hF⟩; rw [hz]))
      have e1 : stepS j (nmOf lv) 1 = j + 1 := if_pos hz
      have e2 : stepT k j (listK k (xs.take j)) (nmOf lv) 1 = listK k (xs.take (j + 1)) := by rw [HL.out]; exact if_pos hz
      rw [e1, e2] at T6
      exact ⟨⟨j + 1, by omega, by omega, by go_num, T6, hF.2 _ _ _ B5 (by omega) (by decide)⟩, by simp [intOf]; omega⟩
    · have hfew := Lib.hid (few_take k hk1.1 hk1.2 xs j (by rw [hx.len]; exact hjn)).2
      have hRb : Hid (∀ d, realK k (xs.take j) d ≤ 100) := Lib.hid (fun d => Nat.le_trans (realK_le k xs j (by rw [hx.len]; exact hjn) d) hj2)
      have hend : (¬ (j : Int) < n) ∨ ((j : Int) < n ∧ ¬ (j : Int) < 100) := by omega
      generalize listK k (xs.take j) = L at *
      generalize realK k (xs.take j) = R at *
      clear hx hc hmk
      rcases hend with c1 | ⟨c1, c2⟩
      all_goals
        go_wp2_with fail
        refine (tm_items T).mono ?_
        rintro e w5 ⟨A', m, c', s, rfl, hT, hI, T5, hB5⟩
        have hT' := Lib.hid hT
        have B5 := Blk.step hB5 BR
        have hm := hI.len
        have hmL : m = cnt R k := by rw [← hm, hT.perm.length_eq]; exact hfew.out.len
        have hm16 : m ≤ 16 := by have := cnt_le R k; omega
        have hg5 := T5.lt
        have hgr5 := B5.lt
        clear hT T BR hB5
        go_wp2_with fail
        go_loopw [12, 13] (fun mn i w6 => ∃ d : Nat, d ≤ k ∧ mn = .int .i64 (cnt R d) ∧ i = .int .i64 d ∧ w6 = w5) (fun _ i _ => k - (intOf i).toNat)
        case atStart => exact ⟨0, Nat.zero_le _, rfl, rfl, rfl⟩
        case round =>
          obtain ⟨d, hd, rfl, rfl, rfl⟩ := hrel
          by_cases hd2 : d < k
          · have cR := B5.cellAt d (arrU_get k _ _ hd2)
            have hcs : cnt R (d + 1) = cnt R d + if 0 < R d then 1 else 0 := rfl
            have hcl := cnt_le R d
            have d1 : (d : Int) < k := by omega
            by_cases hp : 0 < R d
            · rw [if_pos hp] at hcs
              generalize cnt R d = cd at *
              generalize R d = rd at *
              have p1 : (0 : Int) < rd := by omega
              have HC := Lib.hid hcs
              clear hcs
              go_wp2_with fail
              exact ⟨⟨d + 1, by omega, by rw [HC.out]; rfl, by go_num, by first | trivial | rfl⟩, by simp [intOf]; omega⟩
            · rw [if_neg hp] at hcs
              generalize cnt R d = cd at *
              have hz : R d = 0 := by omega
              rw [hz] at cR
              have HC := Lib.hid hcs
              clear hcs
              go_wp2_with fail
              exact ⟨⟨d + 1, by omega, by rw [HC.out]; rfl, by go_num, by first | trivial | rfl⟩, by simp [intOf]; omega⟩
          · obtain rfl : d = k := by omega
            have d1 : ¬ (d : Int) < d := by omega
            generalize hcd : cnt R d = cd at *
            subst hmL
            go_wp2_with fail
            go_loopw [14] (fun i w6 => ∃ q : Nat, q ≤ m ∧ i = .int .i64 q ∧ TM w w.heap.size g d j L w6 ∧ Blk w6 gr 28 (arrU d R) ∧ ∃ bb, Its w6 bb A' m c' s) (fun i _ => m - (intOf i).toNat)
            case atStart => exact ⟨0, Nat.zero_le _, rfl, T5, B5, _, hI⟩
            case round =>
              clear T5 B5 hI
              obtain ⟨q, hq, rfl, T6, B6, bb, I6⟩ := hrel
              by_cases hq2 : q < m
              · obtain ⟨r, rfl, hr0, hr1, hrc, hcell⟩ := I6.row (by omega)
                obtain ⟨x0, x1, x2⟩ := hcell q hq2
                have hmem : s.getD q default ∈ L := by
                  rw [it_get s q (by omega)]
                  exact hT'.out.perm.subset (List.getElem_mem _)
                obtain ⟨cc, hcc, hnm, hov, hmn, hpos⟩ := hfew.out.it _ hmem
                rw [hnm] at x0
                rw [hmn] at x1
                rw [hov] at x2
                have x2' : wr.cell? ⟨r, q * 3 + 2, none⟩ = some (.int .u64 0) := x2
                clear hcell x2 hnm hov hmn hmem
                have cR := B6.cellAt cc (arrU_get d _ _ hcc)
                generalize R cc = rc at *
                have hsz : (nmOf cc).size = 1 := nmOf_size cc
                have hb0 : ∀ h, ((nmOf cc)[0]'h).toNat = 97 + cc := fun h => nm_b cc (by omega) h
                have g1 : (q : Int) < m := by omega
                have g2 : (cc : Int) < d := by omega
                have g3 : ¬ (d : Int) ≤ cc := by omega
                have g4 := B6.lt
                have h1 : ¬ (97 + (cc : Int)) < 97 := by omega
                have h2 : ¬ ((97 + cc : Nat) : Int) < 97 := by omega
                have h3 : ¬ (cc : Int) < 0 := by omega
                have h4 : ¬ 97 + cc < 97 := by omega
                have h5 : (97 + (cc : Int)) - 97 = (cc : Int) := by omega
                have h6 : IntKind.u8.wrap (cc : Int) = (cc : Int) := by simp [IntKind.wrap, IntKind.bits, IntKind.signed]; omega
                have h7 : ¬ d ≤ cc := by omega
                go_upto_region 24 with fail
                have h8 : IntKind.i64.wrap (cc : Int) = (cc : Int) := by rw [IntKind.wrap_i64]; omega
                have h9 : cc < d := hcc
                go_quiet (fail)
                have T8 := T6.step (bdrewN (Below.refl _ _) nq)
                have R8 := B6.drewN nq
                have I8 := I6.step (bdrewN (Below.refl _ _) nq)
                generalize wr.drewN nq = w8 at *
                clear T6 B6 I6
                go_wp2_with fail
                exact ⟨⟨q + 1, by omega, by go_num, T8, R8, _, I8⟩, by simp [intOf]; omega⟩
              · obtain rfl : q = m := by omega
                have g1 : ¬ (q : Int) < q := by omega
                have hle := hfew.out.least hk1.1
                rw [hcd] at hle
                have hqd : q ≤ d := by rw [← hcd]; exact cnt_le R d
                generalize hlt : leastT d L = lt at *
                have HLE := Lib.hid hle
                have HLT := Lib.hid hlt
                clear hle hlt
                by_cases hfull : q < d
                · have h0 : lt = 0 := HLE.out.2 hfull
                  subst h0
                  have g5 : (q : Int) < d := by omega
                  go_wp2_with (first | (go_at_call 14; refine (tm_least T6).mono ?_; rintro e w9 ⟨rfl, T9, _⟩; rw [HLT.out]))
                  go_ret
                  exact ⟨by simp, T9.below⟩
                · have h0 : lt ≠ 0 := fun h => hfull (HLE.out.1 h)
                  have g5 : ¬ (q : Int) < d := by omega
                  have g6 : ((lt : Int) == 0) = false := by simp; omega
                  go_wp2_with (first | (go_at_call 14; refine (tm_least T6).mono ?_; rintro e w9 ⟨rfl, T9, _⟩; rw [HLT.out]))
                  go_ret
                  exact ⟨by simp [h0], T9.below⟩
theorem topFew_row (room : Int) (a : Option Addr) (len cap : Nat) (xs : List Int) (w : World) (h1 : (Lit.int .u8 room).wf = true) (hz : Ints .u8 w a len xs) (hc : len ≤ cap) (hl : len * 1 ≤ 140737488351232) :
    Calls Try.prog 4 #[.int .u8 room, .slice a len cap] w fun e w' => e = .returned (.bool true) ∧ Below w.heap.size w w' :=
  topFew_walk room a len cap xs w (bounds_u8 h1) hz hc (by omega)
end Go.Proofs.Ytcbheekfdhklcaa

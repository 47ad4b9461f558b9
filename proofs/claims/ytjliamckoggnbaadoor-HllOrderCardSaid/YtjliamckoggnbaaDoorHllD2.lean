/- The walk of HllOrder: it returns true, whatever it is given; what lay in memory stays. -/
import Derived.Test.YtjliamckoggnbaaDoorHllM
namespace Go.Proofs.YtjliamckoggnbaaDoor
open Go.RowKit
set_option linter.unusedVariables false
set_option linter.unusedSimpArgs false

set_option maxRecDepth 100000 in
set_option maxHeartbeats 2000000 in
theorem order_walk (bits : Int) (a : Option Addr) (len cap : Nat) (xs : List Int) (more : Int) (w : World) (hT : Tab w) (h1 : 0 ≤ bits ∧ bits ≤ 255)
    (hx : Ints .u64 w a len xs) (hlc : len ≤ cap) (hl : len ≤ 140737488351232) (hmo : 0 ≤ more ∧ more ≤ 18446744073709551615) :
    Calls Tryd.prog 4 #[.int .u8 bits, .slice a len cap, .int .u64 more] w fun e w' => e = .returned (.bool true) ∧ Below w.heap.size w w' := by
  obtain ⟨b, hb⟩ := Int.eq_ofNat_of_zero_le (show 0 ≤ 4 + bits % 7 by omega)
  have hb2 : b = 4 ∨ b = 5 ∨ b = 6 ∨ b = 7 ∨ b = 8 ∨ b = 9 ∨ b = 10 := by omega
  have hbl : (4 : Int) ≤ b ∧ (b : Int) ≤ 10 := by omega
  have HB2 := Lib.hid hb2
  clear hb2
  have hm : 2 ^ b ≤ 1024 := by have := Nat.pow_le_pow_right (n := 2) (by omega) (show b ≤ 10 by omega); simpa using this
  obtain ⟨m, hm0⟩ : ∃ m, 2 ^ b = m := ⟨_, rfl⟩
  rw [hm0] at hm
  have HM := Lib.hid hm0
  clear hm0
  obtain ⟨i0, hi0, hz0, hz1, hz2⟩ := info_parts info_u64
  go_enter Tryd.func4, Tryd.ntmps4
  go_wp2_with fail
  refine (examples_any _ hT).mono ?_
  rintro e w1 ⟨rfl, b1⟩
  go_wp2_with fail
  obtain ⟨l, hl0⟩ : ∃ l, min len 100 = l := ⟨_, rfl⟩
  have e1 : min (len : Int) 100 = (l : Int) := by omega
  have e2 : max (l : Int) 0 = (l : Int) := by omega
  rw [e1, e2, Int.toNat_natCast]
  replace hx := hx.take l (by omega)
  replace hlc : l ≤ cap := by omega
  have hl100 : l ≤ 100 := by omega
  generalize xs.take l = zs at *
  clear hl0 e1 e2 hl
  go_loopw [9, 10] (fun v i wr => ∃ (k : Nat) (A : Option Addr) (c : Nat) (ys : List Int), k ≤ l ∧ i = .int .i64 ((l : Int) - 1 - k) ∧ v = .slice A (2 * k) c ∧ Own .u64 32 wr w.heap.size A (2 * k) c ys ∧ (∀ y ∈ ys, y ∈ zs) ∧ Below w.heap.size w wr) (fun _ i _ => (intOf i + 1).toNat)
  case atStart => exact ⟨0, none, 0, [], Nat.zero_le _, by simp, rfl, Own.nil, (fun y hy => by cases hy), b1⟩
  case round =>
    obtain ⟨k, A, c, ys, hk, rfl, rfl, hO, hys, hB⟩ := hrel
    have hBs := hB.size
    by_cases hkl : k < l
    · obtain ⟨j, hj⟩ : ∃ j : Nat, l = k + 1 + j := ⟨l - 1 - k, by omega⟩
      have hi : (l : Int) - 1 - k = (j : Int) := by omega
      rw [hi]
      obtain ⟨ab, off, rfl, hbl, hc⟩ := hx.at_ (by omega)
      obtain ⟨mid, hmid⟩ : ∃ mid, l / 2 = mid := ⟨_, rfl⟩
      have hmid2 : (l : Int) / 2 = (mid : Int) := by omega
      have hck := hB.cell (p := ⟨ab, off + j, none⟩) hbl
      rw [hc j (by omega)] at hck
      have hv1 : zs.getD j 0 ∈ zs := by rw [List.getD_eq_getElem?_getD, List.getElem?_eq_getElem (by rw [hx.len]; omega)]; exact List.getElem_mem _
      have hv2 : zs.getD mid 0 ∈ zs := by rw [List.getD_eq_getElem?_getD, List.getElem?_eq_getElem (by rw [hx.len]; omega)]; exact List.getElem_mem _
      have hcm := hc mid (by omega)
      clear hc
      generalize zs.getD j 0 = v at *
      generalize zs.getD mid 0 = v2 at *
      have hw1 := hx.wf _ hv1
      have hw2 := hx.wf _ hv2
      have hjl : (j : Int) < l := by omega
      have hml : (mid : Int) < l := by omega
      have HJ := Lib.hid hj
      have HD := Lib.hid hmid
      clear hj hmid hi
      go_wp2_with (first
        | (at_builtin
           refine wpList_app _ rfl _ _ 36 rfl 32 i0 8 .u64 Tryd.underlying36 hi0 hz0 hz1 hz2 w.heap.size A (2 * k) c ys (hO.step (balloc (Below.refl _ _) _)) rfl (some ⟨wr.heap.size, 0, none⟩) 1 1 [v] (ints_one (Blk.new wr _ _) hw1) rfl (by omega) (by omega) (by simp; omega) ?_
           intro A1 c1 w4 hO1 hG1 hat1
           have b4 := (hO.step (balloc (Below.refl _ _) _)).below (balloc hB _) (by simp; omega) hG1
           have hbs4 := b4.size
           have hcm2 := b4.cell (p := ⟨ab, off + mid, none⟩) hbl
           rw [hcm] at hcm2)
        | (at_builtin
           refine wpList_app _ rfl _ _ 36 rfl 32 i0 8 .u64 Tryd.underlying36 hi0 hz0 hz1 hz2 w.heap.size A1 (2 * k + 1) c1 _ (hO1.step (balloc (Below.refl _ _) _)) rfl (some ⟨w4.heap.size, 0, none⟩) 1 1 [v2] (ints_one (Blk.new w4 _ _) hw2) rfl (by omega) (by omega) (by simp; omega) ?_
           intro A2 c2 w5 hO2 hG2 hat2
           have b5 := (hO1.step (balloc (Below.refl _ _) _)).below (balloc b4 _) (by simp; omega) hG2))
      go_roundw
      case rel =>
        have hj := HJ.out
        refine ⟨k + 1, A2, c2, _, by omega, by go_num, ?_, by rw [show 2 * (k + 1) = 2 * k + 1 + 1 by omega]; exact hO2, ?_, b5⟩
        · rw [show 2 * (k + 1) = 2 * k + 1 + 1 by omega]
        · intro y hy
          simp only [List.append_assoc, List.mem_append, List.mem_singleton] at hy
          rcases hy with h | h | h
          · exact hys y h
          · rw [h]; exact hv1
          · rw [h]; exact hv2
      case measure =>
        have hj := HJ.out
        simp only [intOf]
        omega
    · obtain rfl : k = l := by omega
      have hi : (k : Int) - 1 - k = -1 := by omega
      rw [hi]
      go_wp2_with fail
      clear hi
      refine (fed_any b a k cap zs _ HB2.out (hT.step hB) (hx.step hB) (by omega)).mono ?_
      rintro e w2 ⟨rfl, s2, b2⟩
      rw [List.take_of_length_le (by rw [hx.len]; omega)] at s2
      replace hO := hO.step b2
      have hOc := hO.le
      replace hB := bstep b2 hB
      have hgs00 : w.heap.size ≤ wr.heap.size := hBs
      generalize wr.heap.size = gs at *
      clear b2
      go_wp2_with fail
      obtain ⟨n2, hn2⟩ : ∃ n2, min (2 * k) 100 = n2 := ⟨_, rfl⟩
      have e1 : min (2 * (k : Int)) 100 = (n2 : Int) := by omega
      rw [e1, Int.toNat_natCast]
      refine (fed_any b A n2 c _ _ HB2.out (hT.step hB) (hO.ints.take n2 (by omega)) (by omega)).mono ?_
      rintro e w3 ⟨rfl, s3, b3⟩
      have hgs : gs < w2.heap.size := s2.lt
      replace s2 := Sk.step b3 s2
      replace hO := hO.step b3
      replace hB := bstep b3 hB
      generalize w2.heap.size = gt at *
      clear b3 s3 e1 hn2
      go_wp2_with fail
      refine (fed_any b A (2 * k) c _ _ HB2.out (hT.step hB) hO.ints (by omega)).mono ?_
      rintro e w4 ⟨rfl, s4, b4⟩
      have hgu : gs < w3.heap.size := s2.lt
      replace s2 := Sk.step b4 s2
      have hbs := hB.size
      replace hB := bstep b4 hB
      have hys2 : ∀ y ∈ ys.take 100, y ∈ zs := fun y hy => hys y (List.mem_of_mem_take hy)
      have hord := order_law b zs (ys.take 100) hys2
      generalize w3.heap.size = gu at *
      clear b4 hO hys hys2
      go_wp2_with fail
      have hgs0 : w.heap.size ≤ gs := hgs00
      have hgu0 : w.heap.size ≤ gu := by omega
      generalize hQ : feed b (zeros b) (ys.take 100) = Q at *
      go_loopw [14] (fun i wr => ∃ q : Nat, q ≤ k ∧ i = .int .i64 q ∧ Sk wr gu b (feed b Q (zs.take q)) ∧ Sk wr gs b (feed b (zeros b) zs) ∧ Below w.heap.size w wr) (fun i _ => k - (intOf i).toNat)
      case atStart => exact ⟨0, Nat.zero_le _, rfl, s4, s2, hB⟩
      case round =>
        obtain ⟨q, hq, rfl, hSu, hSs, hB⟩ := hrel
        by_cases hqk : q < k
        · obtain ⟨ab, off, rfl, hbl, hc⟩ := (hx.step hB).at_ (by omega)
          have hck := hc q hqk
          have hv := hx.bd64 q hqk
          have HF := Lib.hid (feed_snoc b Q zs q (by rw [hx.len]; exact hqk))
          clear hc
          generalize zs.getD q 0 = v at *
          obtain ⟨h, rfl⟩ := Int.eq_ofNat_of_zero_le hv.1
          have hadd := Add_any gu b _ h wr (by omega) hSu (hT.step hB)
          have e0 : addR b (feed b Q (zs.take q)) h = feed b Q (zs.take (q + 1)) := by rw [HF.out]; rfl
          rw [e0] at hadd
          have HA := Lib.hid hadd
          clear hadd e0 HF hv
          have hk1 : (q : Int) < k := by omega
          generalize addB b (feed b Q (zs.take q)) h = o at *
          go_wp2_with fail
          refine (HA.out).mono ?_
          rintro e w5 ⟨rfl, hS2, hG2⟩
          have hSs2 := Sk.grown hG2 hSs (by simp; omega)
          have hB2 := bonly hB hG2 hgu0
          go_wp2_with fail
          go_roundw
          case rel => exact ⟨q + 1, by omega, by go_num, hS2, hSs2, hB2⟩
          case measure => simp [intOf]; omega
        · obtain rfl : q = k := by omega
          rw [List.take_of_length_le (by rw [hx.len]; omega), hord] at hSu
          clear hord hQ s4 s2
          go_wp2_with fail
          refine (Registers_any gs b _ _ hSs).mono ?_
          rintro e w5 ⟨rfl, rfl⟩
          go_wp2_with fail
          refine (Registers_any gu b _ _ hSu).mono ?_
          rintro e w5 ⟨rfl, rfl⟩
          generalize feed b (zeros b) zs = R at *
          obtain ⟨mo, rfl⟩ := Int.eq_ofNat_of_zero_le hmo.1
          have hadd := Add_any gs b _ mo wr (by omega) hSs (hT.step hB)
          have HG := Lib.hid (fun j => grows_law b R mo j hSs.len)
          have HL := Lib.hid (addR_len b R mo)
          generalize addR b R mo = R2 at *
          generalize addB b R mo = ob at *
          go_wp2_with fail
          refine hadd.mono ?_
          rintro e w5 ⟨rfl, hS5, hG5⟩
          replace hB := bonly hB hG5 hgs0
          go_wp2_with fail
          refine (Registers_any gs b _ _ hS5).mono ?_
          rintro e w6 ⟨rfl, rfl⟩
          go_wp2_with fail
          have hl1 : R.length = m := by rw [hSs.len, HM.out]
          have hl2 : R2.length = m := by rw [hS5.len, HM.out]
          have hz1 : (strOfNums R).size = m := by rw [strOfNums_size, hl1]
          have hz2 : (strOfNums R2).size = m := by rw [strOfNums_size, hl2]
          have hc1 : ∀ i, i < m → (strOfNums R)[i]? = some (UInt8.ofNat (R.getD i 0).toNat) := fun i hi => strOfNums_get R i (by omega)
          have hc2 : ∀ i, i < m → (strOfNums R2)[i]? = some (UInt8.ofNat (R2.getD i 0).toNat) := fun i hi => strOfNums_get R2 i (by omega)
          have hv1 := fun i => hSs.get i
          have hv2 := fun i => hS5.get i
          generalize strOfNums R = S at *
          generalize strOfNums R2 = S2 at *
          clear hadd hSu hG5
          go_loopw [18] (fun i w9 => ∃ j : Nat, j ≤ m ∧ i = .int .i64 j ∧ Below w.heap.size w w9) (fun i _ => m - (intOf i).toNat)
          case atStart => exact ⟨0, Nat.zero_le _, rfl, hB⟩
          case round =>
            obtain ⟨j, hj, rfl, hB⟩ := hrel
            by_cases hjm : j < m
            · have hs1 : (j : Int) < (S.size : Int) := by omega
              have hs2 : (j : Int) < (S2.size : Int) := by omega
              have hs1' : j < S.size := by omega
              have hs2' : j < S2.size := by omega
              have hd1 : S[j].toNat = (R.getD j 0).toNat := by
                have h := hc1 j hjm
                have h2 : S[j]? = some S[j] := by simp [hs1']
                rw [h2] at h
                have := hv1 j
                rw [Option.some.inj h, UInt8.toNat_ofNat']
                omega
              have hd2 : S2[j].toNat = (R2.getD j 0).toNat := by
                have h := hc2 j hjm
                have h2 : S2[j]? = some S2[j] := by simp [hs2']
                rw [h2] at h
                have := hv2 j
                rw [Option.some.inj h, UInt8.toNat_ofNat']
                omega
              have hle := HG.out j
              have h1j := hv1 j
              have h2j := hv2 j
              obtain ⟨x1, hx1⟩ := Int.eq_ofNat_of_zero_le h1j.1
              obtain ⟨x2, hx2⟩ := Int.eq_ofNat_of_zero_le h2j.1
              rw [hx1, Int.toNat_natCast] at hd1
              rw [hx2, Int.toNat_natCast] at hd2
              rw [hx1, hx2] at hle
              have hd3 : ¬ (x2 : Int) < (x1 : Int) := by omega
              have hd4 : decide ((x2 : Int) < (x1 : Int)) = false := decide_eq_false hd3
              clear hx1 hx2 h1j h2j hle
              go_wp2_with fail
              go_quiet (fail)
              go_wp2_with fail
              go_roundw
              case rel => exact ⟨j + 1, by omega, by go_num, bdrewN hB _⟩
              case measure => simp [intOf]; omega
            · obtain rfl : j = m := by omega
              have hs1 : ¬ (j : Int) < (S.size : Int) := by omega
              go_wp2_with fail
              go_ret
              exact ⟨rfl, hB⟩
theorem hllOrder_row (bits : Int) (a : Option Addr) (len cap : Nat) (xs : List Int) (more : Int) (w : World) (h1 : (Lit.int .u8 bits).wf = true) (hx : Ints .u64 w a len xs) (hc : len ≤ cap) (hl : len * 8 ≤ 140737488351232) (h3 : (Lit.int .u64 more).wf = true) (hT : Tab w) :
    Calls Tryd.prog 4 #[.int .u8 bits, .slice a len cap, .int .u64 more] w fun e w' => e = .returned (.bool true) ∧ Below w.heap.size w w' :=
  order_walk bits a len cap xs more w hT (bounds_u8 h1) hx hc (by omega) (bounds_u64 h3)
end Go.Proofs.YtjliamckoggnbaaDoor

/- The document's own sketch of registers: Of. -/
import Derived.Test.YtjliamckoggnbaaDoorHllU
namespace Go.Proofs.YtjliamckoggnbaaDoor
open Go.RowKit
set_option linter.unusedVariables false
set_option linter.unusedSimpArgs false

def ROfPost (s : ByteArray) (w : World) (e : Ending) (w' : World) : Prop :=
  Below w.heap.size w w' ∧
    ((OkS s ∧ ∃ g y b, e = .returned (.pointer (some ⟨g, 0, none⟩)) ∧ w.heap.size ≤ g ∧ w.heap.size ≤ y ∧ Rf w' g y b (bI s)) ∨
     (¬ OkS s ∧ e = .returned (.pointer none)))

/-- The first j of the text, 0 behind them. -/
def laidTo (xs zs : List Int) (j : Nat) : List Int := xs.take j ++ zs.drop j
theorem laidTo_zero (xs zs : List Int) : laidTo xs zs 0 = zs := by simp [laidTo]
theorem laidTo_all (xs zs : List Int) (h : zs.length = xs.length) : laidTo xs zs xs.length = xs := by unfold laidTo; rw [List.take_length, List.drop_of_length_le (by omega), List.append_nil]
theorem laidTo_succ (xs zs : List Int) (j : Nat) (h : j < xs.length) (h' : j < zs.length) : (laidTo xs zs j).set j (xs.getD j 0) = laidTo xs zs (j + 1) := by
  simp only [laidTo]
  rw [List.set_append_right _ _ (by simp; omega)]
  have e : j - (xs.take j).length = 0 := by simp; omega
  rw [e, List.drop_eq_getElem_cons h', List.set_cons_zero, List.take_succ_eq_append_getElem h, List.append_assoc]
  simp only [List.getD_eq_getElem?_getD, List.getElem?_eq_getElem h, Option.getD_some, List.singleton_append]
theorem bI_at (s : ByteArray) (j : Nat) (h : j < s.size) : (bI s).getD j 0 = ((s[j].toNat : Nat) : Int) := by
  rw [bI_get s j h]
  have h2 : j < s.data.toList.length := by rw [Array.length_toList]; exact h
  rw [List.getD_eq_getElem?_getD, List.getElem?_eq_getElem h2]
  rfl

set_option maxRecDepth 100000 in
set_option maxHeartbeats 2000000 in
theorem ROf_any (s : ByteArray) (w : World) (hs : s.size ≤ 9223372036854775807) : Calls Tryd.prog 13 #[.string s] w (ROfPost s w) := by
  go_enter Tryd.func13, Tryd.ntmps13
  go_wp2_with fail
  go_loop [3] (fun i => ∃ k : Nat, 4 ≤ k ∧ k ≤ 11 ∧ i = .int .i64 k ∧ Hid (∀ q, 4 ≤ q → q < k → s.size ≠ 2 ^ q)) (fun i => 11 - (intOf i).toNat)
  case atStart => exact ⟨4, by omega, by omega, rfl, Lib.hid (fun q h1 h2 => by omega)⟩
  case round =>
    obtain ⟨k, hk4, hk11, rfl, HN⟩ := hrel
    by_cases hk : k ≤ 10
    · have hsk := shlk k hk
      have hsk2 := shlkw k hk
      have hm : 2 ^ k ≤ 1024 := by have := Nat.pow_le_pow_right (n := 2) (by omega) hk; simpa using this
      by_cases hsz : s.size = 2 ^ k
      · have hkk : k = 4 ∨ k = 5 ∨ k = 6 ∨ k = 7 ∨ k = 8 ∨ k = 9 ∨ k = 10 := by omega
        obtain ⟨m, hm0⟩ : ∃ m, 2 ^ k = m := ⟨_, rfl⟩
        have HKK := Lib.hid hkk
        clear hkk
        rw [hm0] at hsk hsk2 hsz hm
        have HM := Lib.hid hm0
        clear hm0
        have hb1 : ((s.size : Int) == (m : Int)) = true := by simp [hsz]
        have hb2 : ((m : Int) == (m : Int)) = true := by simp
        go_wp2_with fail
        refine (RNew_yes k _ HKK.out).mono ?_
        rintro e w1 ⟨g, y, rfl, hg, hy, R, hB⟩
        go_wp2_with fail
        have hbl : (bI s).length = m := by rw [bI_len, hsz]
        have hzl : (zeros k).length = m := by rw [zeros_len, HM.out]
        have HSZ := Lib.hid hsz
        have hsz1 : (s.size : Int) = m := by omega
        clear hsz
        go_loopw [5] (fun i wr => ∃ j : Nat, j ≤ m ∧ i = .int .i64 j ∧ Rf wr g y k (laidTo (bI s) (zeros k) j) ∧ Below w.heap.size w wr ∧ Hid (∀ x ∈ (bI s).take j, x ≤ 26)) (fun i _ => m - (intOf i).toNat)
        case atStart => exact ⟨0, Nat.zero_le _, rfl, by rw [laidTo_zero]; exact R, hB, Lib.hid (fun x hx => by simp at hx)⟩
        case round =>
          obtain ⟨j, hj, rfl, R, hB, HX⟩ := hrel
          by_cases hjm : j < m
          · have hjs : (j : Int) < (s.size : Int) := by omega
            have hjs' : j < s.size := by omega
            have hv := bI_at s j hjs'
            obtain ⟨v, hv0⟩ : ∃ v, s[j].toNat = v := ⟨_, rfl⟩
            rw [hv0] at hv
            have c0 := R.cell0
            rw [HM.out] at c0
            have hjm1 : (j : Int) < m := by omega
            by_cases hv26 : v ≤ 26
            · have hp := R.put j v (by rw [HM.out]; exact hjm) (by omega) (by omega)
              have hset := laidTo_succ (bI s) (zeros k) j (by omega) (by omega)
              rw [hv] at hset
              rw [hset] at hp
              have HP := Lib.hid hp
              have hfr := R.frozen j
              have ck := R.cell j (by rw [HM.out]; exact hjm)
              have HX2 : Hid (∀ x ∈ (bI s).take (j + 1), x ≤ 26) := Lib.hid (fun x hx => by
                rw [List.take_succ_eq_append_getElem (by omega), List.mem_append, List.mem_singleton] at hx
                rcases hx with hx | hx
                · exact HX.out x hx
                · have e : (bI s).getD j 0 = (bI s)[j] := by simp [List.getD_eq_getElem?_getD, List.getElem?_eq_getElem (show j < (bI s).length by omega)]
                  rw [hx, ← e, hv]
                  omega)
              have hd1 : ¬ (26 : Int) < (v : Int) := by omega
              have hd2 : decide ((26 : Int) < (v : Int)) = false := decide_eq_false hd1
              clear hp hset hv HX
              generalize (laidTo (bI s) (zeros k) j).getD j 0 = old at *
              go_wp2_with fail
              go_still_tail 10, (by kernel_rfl)
              change wpList _ _ _ _ _ wr.drew
              have hfr2 : wr.drew.frozen? ⟨y, j, none⟩ = false := hfr
              have ck2 : wr.drew.cell? ⟨y, j, none⟩ = some (.int .i64 old) := ck
              have HP2 : Hid (Rf (wr.drew.setCell ⟨y, j, none⟩ (.int .i64 v)) g y k (laidTo (bI s) (zeros k) (j + 1))) := Lib.hid ((HP.out).drewN 1)
              have hB2 : Below w.heap.size w wr.drew := bdrew hB
              generalize wr.drew = w2 at *
              go_wp2_with fail
              exact ⟨⟨j + 1, by omega, by go_num, HP2.out, bset hB2 hy _, HX2⟩, by simp [intOf]; omega⟩
            · have hd1 : (26 : Int) < (v : Int) := by omega
              have hd2 : decide ((26 : Int) < (v : Int)) = true := decide_eq_true hd1
              have HV := Lib.hid hv
              clear hv
              go_wp2_with fail
              go_ret
              refine ⟨hB, .inr ⟨?_, rfl⟩⟩
              rintro ⟨_, hall⟩
              have h2 := hall ((bI s).getD j 0) (by
                rw [List.getD_eq_getElem?_getD, List.getElem?_eq_getElem (show j < (bI s).length by omega)]
                exact List.getElem_mem _)
              rw [HV.out] at h2
              omega
          · obtain rfl : j = m := by omega
            have hjs : ¬ (j : Int) < (s.size : Int) := by omega
            have HL := Lib.hid hbl
            have HZ := Lib.hid hzl
            clear hbl hzl
            go_wp2_with fail
            go_ret
            have e1 : laidTo (bI s) (zeros k) j = bI s := by
              have h1 := laidTo_all (bI s) (zeros k) (by rw [HL.out, HZ.out])
              rw [HL.out] at h1
              exact h1
            rw [e1] at R
            refine ⟨hB, .inl ⟨⟨⟨k, hk4, hk, by rw [HSZ.out, HM.out]⟩, ?_⟩, g, y, k, rfl, hg, hy, R⟩⟩
            intro x hx
            exact HX.out x (by rw [List.take_of_length_le (by rw [HL.out]; exact Nat.le_refl _)]; exact hx)
      · have hb1 : ((s.size : Int) == ((2 ^ k : Nat) : Int)) = false := beq_eq_false_iff_ne.2 (fun e => hsz (Int.ofNat_inj.1 e))
        have HN2 : Hid (∀ q, 4 ≤ q → q < k + 1 → s.size ≠ 2 ^ q) := Lib.hid (fun q h1 h2 => by
          by_cases h3 : q = k
          · subst h3; exact hsz
          · exact HN.out q h1 (by omega))
        clear HN
        generalize 2 ^ k = m at *
        go_wp2_with fail
        go_round
        case rel => exact ⟨k + 1, by omega, by omega, by go_num, HN2⟩
        case measure => simp [intOf]; omega
    · obtain rfl : k = 11 := by omega
      go_wp2_with fail
      go_ret
      refine ⟨Below.refl _ _, .inr ⟨?_, rfl⟩⟩
      rintro ⟨⟨b, h1, h2, h3⟩, _⟩
      exact HN.out b h1 (by omega) h3
end Go.Proofs.YtjliamckoggnbaaDoor

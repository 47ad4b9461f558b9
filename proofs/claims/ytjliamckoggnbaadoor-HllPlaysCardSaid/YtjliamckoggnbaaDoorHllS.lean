/- The document's own sketch in memory, and what its small functions do. -/
import Derived.Test.YtjliamckoggnbaaDoorHllW
import Derived.Test.YtjliamckoggnbaaDoorHllQ
import Derived.Test.YtjliamckoggnbaaDoorApp
namespace Go.Proofs.YtjliamckoggnbaaDoor
open Go.RowKit
set_option linter.unusedVariables false
set_option linter.unusedSimpArgs false

/-- Block g is the document's sketch, block h its registers r (2 to the b of them). -/
structure Rf (w : World) (g h b : Nat) (r : List Int) : Prop where
  blk : Blk w g 59 #[.slice (some ⟨h, 0, none⟩) (2 ^ b) (2 ^ b)]
  row : Blk w h 3 (r.map (Value.int .i64)).toArray
  lo : 4 ≤ b
  hi : b ≤ 10
  len : r.length = 2 ^ b
  wf : ∀ x ∈ r, 0 ≤ x ∧ x ≤ 26

section
variable {w w' : World} {g h b : Nat} {r : List Int}
theorem Rf.bits_cases (R : Rf w g h b r) : b = 4 ∨ b = 5 ∨ b = 6 ∨ b = 7 ∨ b = 8 ∨ b = 9 ∨ b = 10 := by
  have := R.lo; have := R.hi; omega
theorem Rf.cell0 (R : Rf w g h b r) : w.cell? ⟨g, 0, none⟩ = some (.slice (some ⟨h, 0, none⟩) (2 ^ b) (2 ^ b)) := R.blk.cellAt 0 rfl
theorem Rf.cell (R : Rf w g h b r) (k : Nat) (hk : k < 2 ^ b) : w.cell? ⟨h, k, none⟩ = some (.int .i64 (r.getD k 0)) := by
  refine R.row.cellAt k ?_
  have hl := R.len
  have hk' : k < r.length := by omega
  simp [List.getD_eq_getElem?_getD, List.getElem?_eq_getElem hk']
theorem Rf.frozen (R : Rf w g h b r) (i : Nat) : w.frozen? ⟨h, i, none⟩ = false := R.row.frozen i
theorem Rf.ne_ (R : Rf w g h b r) : g ≠ h := R.blk.ne_ R.row (by decide)
theorem Rf.lt (R : Rf w g h b r) : g < w.heap.size ∧ h < w.heap.size := ⟨R.blk.lt, R.row.lt⟩
theorem Rf.get (R : Rf w g h b r) (k : Nat) : 0 ≤ r.getD k 0 ∧ r.getD k 0 ≤ 26 := by
  rw [List.getD_eq_getElem?_getD]
  rcases Nat.lt_or_ge k r.length with hk | hk
  · rw [List.getElem?_eq_getElem hk]
    exact R.wf _ (List.getElem_mem hk)
  · rw [List.getElem?_eq_none hk]
    simp
theorem Rf.step (hb : Below w.heap.size w w') (R : Rf w g h b r) : Rf w' g h b r := ⟨Blk.step hb R.blk, Blk.step hb R.row, R.lo, R.hi, R.len, R.wf⟩
theorem Rf.drewN (R : Rf w g h b r) (n : Nat) : Rf (w.drewN n) g h b r := ⟨R.blk, R.row, R.lo, R.hi, R.len, R.wf⟩
theorem Rf.grown {row : Option Nat} (hb : w.grownBy w' row) (R : Rf w g h b r) (h1 : some g ≠ row) (h2 : some h ≠ row) : Rf w' g h b r := ⟨Blk.grown hb R.blk h1, Blk.grown hb R.row h2, R.lo, R.hi, R.len, R.wf⟩
theorem Rf.put (R : Rf w g h b r) (k : Nat) (v : Int) (hk : k < 2 ^ b) (h0 : 0 ≤ v) (h1 : v ≤ 26) : Rf (w.setCell ⟨h, k, none⟩ (.int .i64 v)) g h b (r.set k v) where
  blk := R.blk.far R.ne_ _
  row := by
    have h2 := R.row.put k (.int .i64 v)
    have e : (r.map (Value.int .i64)).toArray.setIfInBounds k (.int .i64 v) = ((r.set k v).map (Value.int .i64)).toArray := by
      rw [List.setIfInBounds_toArray, List.map_set]
    rw [e] at h2
    exact h2
  lo := R.lo
  hi := R.hi
  len := by rw [List.length_set]; exact R.len
  wf := by
    intro x hx
    rcases List.mem_or_eq_of_mem_set hx with h2 | h2
    · exact R.wf x h2
    · subst h2; exact ⟨h0, h1⟩
end

theorem info_int : (Tryd.prog.info? 3).map (fun i => (i.zero, i.size, i.bytes)) = some (some (.int .i64 0), 1, 8) := by kernel_rfl
theorem shlw (b : Nat) (h : b = 4 ∨ b = 5 ∨ b = 6 ∨ b = 7 ∨ b = 8 ∨ b = 9 ∨ b = 10) : wrap64 ((2 : Int) ^ b) = ((2 ^ b : Nat) : Int) := by
  rcases h with rfl | rfl | rfl | rfl | rfl | rfl | rfl <;> decide +kernel

theorem shlk (k : Nat) (h : k ≤ 10) : IntKind.i64.wrap ((2 : Int) ^ min k 64) = ((2 ^ k : Nat) : Int) := by
  rcases (show k = 0 ∨ k = 1 ∨ k = 2 ∨ k = 3 ∨ k = 4 ∨ k = 5 ∨ k = 6 ∨ k = 7 ∨ k = 8 ∨ k = 9 ∨ k = 10 by omega) with rfl | rfl | rfl | rfl | rfl | rfl | rfl | rfl | rfl | rfl | rfl <;> decide +kernel

theorem shlkw (k : Nat) (h : k ≤ 10) : wrap64 ((2 : Int) ^ k) = ((2 ^ k : Nat) : Int) := by
  rcases (show k = 0 ∨ k = 1 ∨ k = 2 ∨ k = 3 ∨ k = 4 ∨ k = 5 ∨ k = 6 ∨ k = 7 ∨ k = 8 ∨ k = 9 ∨ k = 10 by omega) with rfl | rfl | rfl | rfl | rfl | rfl | rfl | rfl | rfl | rfl | rfl <;> decide +kernel

theorem RNew_no (bits : Int) (w : World) (h : bits < 4 ∨ 10 < bits) :
    Calls Tryd.prog 24 #[.int .i64 bits] w fun e w' => e = .returned (.pointer none) ∧ w = w' := by
  go_enter Tryd.func24, Tryd.ntmps24
  rcases h with h | h
  · go_wp2_with fail
    go_ret
    exact ⟨rfl, rfl⟩
  · have h2 : ¬ bits < 4 := by omega
    go_wp2_with fail
    go_ret
    exact ⟨rfl, rfl⟩

theorem RNew_yes (b : Nat) (w : World) (hb : b = 4 ∨ b = 5 ∨ b = 6 ∨ b = 7 ∨ b = 8 ∨ b = 9 ∨ b = 10) :
    Calls Tryd.prog 24 #[.int .i64 b] w fun e w' => ∃ g h, e = .returned (.pointer (some ⟨g, 0, none⟩)) ∧ w.heap.size ≤ g ∧ w.heap.size ≤ h ∧ Rf w' g h b (zeros b) ∧ Below w.heap.size w w' := by
  have hbl : (4 : Int) ≤ b ∧ (b : Int) ≤ 10 := by omega
  have hsh := shl1i b hb
  have hsw := shlw b hb
  have HB2 := Lib.hid hb
  clear hb
  have hm : 2 ^ b ≤ 1024 := by have := Nat.pow_le_pow_right (n := 2) (by omega) (show b ≤ 10 by omega); simpa using this
  obtain ⟨m, hm0⟩ : ∃ m, 2 ^ b = m := ⟨_, rfl⟩
  rw [hm0] at hm hsh hsw
  have HM := Lib.hid hm0
  clear hm0
  have hmk := run_make_row' (P := Tryd.prog) 57 3 (.int .i64 0) 8 Tryd.underlying57 info_int rfl .i64 .i64 m (by omega) (by omega)
  go_enter Tryd.func24, Tryd.ntmps24
  go_wp2_with fail
  go_ret
  refine ⟨w.heap.size + 1, w.heap.size, rfl, by omega, Nat.le_refl _, ?_, balloc (balloc (Below.refl _ _) _) _⟩
  have hz : madeCells #[Value.int .i64 0] m = ((zeros b).map (Value.int .i64)).toArray := by
    have h1 : (madeCells #[Value.int .i64 0] m).toList = List.replicate m (Value.int .i64 0) := toList_madeCells_one _ _
    have h2 : madeCells #[Value.int .i64 0] m = (madeCells #[Value.int .i64 0] m).toList.toArray := by simp
    rw [h2, h1]
    simp [zeros, HM.out]
  refine ⟨?_, ?_, by omega, by omega, zeros_len b, fun x hx => ?_⟩
  · rw [HM.out]
    exact Blk.newAt (by simp)
  · rw [← hz]
    exact (Blk.new _ _ _).alloc _
  · rw [List.eq_of_mem_replicate hx]; omega

/-- Bits counts up to b. -/
theorem RBits_any (g h b : Nat) (r : List Int) (w : World) (R : Rf w g h b r) :
    Calls Tryd.prog 18 #[.pointer (some ⟨g, 0, none⟩)] w fun e w' => e = .returned (.int .i64 b) ∧ Below w.heap.size w w' := by
  have c0 := R.cell0
  have hg := R.lt
  have hlo := R.lo
  have hhi := R.hi
  have hm : 2 ^ b ≤ 1024 := by have := Nat.pow_le_pow_right (n := 2) (by omega) hhi; simpa using this
  have HP := Lib.hid (fun (k : Nat) (hk : k < b) => Nat.pow_lt_pow_right (a := 2) (by omega) hk)
  obtain ⟨m, hm0⟩ : ∃ m, 2 ^ b = m := ⟨_, rfl⟩
  rw [hm0] at hm HP c0
  have HM := Lib.hid hm0
  clear hm0
  go_enter Tryd.func18, Tryd.ntmps18
  go_wp2_with fail
  go_loopw [3] (fun i wr => ∃ k : Nat, k ≤ b ∧ i = .int .i64 k ∧ Below w.heap.size w wr) (fun i _ => b - (intOf i).toNat)
  case atStart => exact ⟨0, Nat.zero_le _, rfl, Below.refl _ _⟩
  case round =>
    obtain ⟨k, hk, rfl, hB⟩ := hrel
    have c1 := hB.cell (p := ⟨g, 0, none⟩) hg.1
    rw [c0] at c1
    have hsk := shlk k (by omega)
    have hsk2 := shlkw k (by omega)
    by_cases hkb : k < b
    · have hp := HP.out k hkb
      obtain ⟨p, hp0⟩ : ∃ p, 2 ^ k = p := ⟨_, rfl⟩
      rw [hp0] at hp hsk hsk2
      clear hp0
      have hp2 : (p : Int) < (m : Int) := by omega
      go_wp2_with fail
      go_quiet (fail)
      go_wp2_with fail
      go_roundw
      case rel => exact ⟨k + 1, by omega, by go_num, bdrewN hB _⟩
      case measure => simp [intOf]; omega
    · obtain rfl : k = b := by omega
      rw [HM.out] at hsk hsk2
      have hp2 : ¬ (m : Int) < (m : Int) := by omega
      go_wp2_with fail
      go_quiet (fail)
      go_wp2_with fail
      go_ret
      exact ⟨rfl, bdrewN hB _⟩
end Go.Proofs.YtjliamckoggnbaaDoor

/- New, alpha, Registers, Clear: what each returns and leaves. -/
import Derived.Test.YtapiehddcdnadaaDoorHllB
import Derived.Laws.BytesArg
import Derived.Lib.SliceRun
namespace Go.Proofs.YtapiehddcdnadaaDoor
open Go.RowKit
set_option linter.unusedVariables false
set_option linter.unusedSimpArgs false

theorem New_no (b : Int) (w : World) (h : b < 4 ∨ 10 < b) :
    Calls Tryd.prog 20 #[.int .i64 b] w fun e w' => e = .returned (.tuple #[.pointer none, .int .i64 1]) ∧ Below w.heap.size w w' := by
  rcases h with h | h
  · go_enter Tryd.func20, Tryd.ntmps20
    go_wp2
    go_ret2
    exact ⟨rfl, Below.refl _ _⟩
  · have h4 : ¬ b < 4 := by omega
    go_enter Tryd.func20, Tryd.ntmps20
    go_wp2
    go_ret2
    exact ⟨rfl, Below.refl _ _⟩

theorem zero_sk (w : World) : (zeroValue 81).run Tryd.prog w = .ok (.agg (skCells 0 [])) w := by kernel_rfl

theorem New_core (b : Nat) (Z C : Array Value) (w : World) (h4 : ¬ (b : Int) < 4) (h10 : ¬ (10 : Int) < b) (hz : ∀ w, (zeroValue 81).run Tryd.prog w = .ok (.agg Z) w)
    (hne : (Z = #[]) = False) (hC : Z.setIfInBounds 0 (.int .i64 b) = C) :
    Calls Tryd.prog 20 #[.int .i64 b] w fun e w' => e = .returned (.tuple #[.pointer (some ⟨w.heap.size, 0, none⟩), .int .i64 0]) ∧ w' = w.alloc (.cells C 81) := by
  go_enter Tryd.func20, Tryd.ntmps20
  go_wp2_with fail
  go_ret2
  exact ⟨rfl, rfl⟩

theorem skCells_zero (b c : Nat) (h : c ≤ 1024) : (skCells 0 []).setIfInBounds 0 (.int .i64 b) = skCells b (List.replicate c 0) := by
  simp only [skCells, List.setIfInBounds_toArray, List.map_nil, List.nil_append, List.length_nil, Nat.sub_zero, List.set_cons_zero, List.map_replicate, List.length_replicate]
  congr 2
  rw [List.replicate_append_replicate]
  congr 1
  omega

theorem New_yes (b : Nat) (w : World) (h : b = 4 ∨ b = 5 ∨ b = 6 ∨ b = 7 ∨ b = 8 ∨ b = 9 ∨ b = 10) :
    Calls Tryd.prog 20 #[.int .i64 b] w fun e w' => e = .returned (.tuple #[.pointer (some ⟨w.heap.size, 0, none⟩), .int .i64 0]) ∧ Sk w' w.heap.size b (List.replicate (2 ^ b) 0) ∧ Below w.heap.size w w' := by
  have hm : 2 ^ b ≤ 1024 := by have := Nat.pow_le_pow_right (n := 2) (by omega) (show b ≤ 10 by omega); simpa using this
  refine (New_core b (skCells 0 []) (skCells b (List.replicate (2 ^ b) 0)) w (by omega) (by omega) zero_sk (eq_false (fun h => by have h2 := congrArg Array.size h; simp only [skCells, List.size_toArray, List.length_cons, List.size_toArray, List.length_nil] at h2; omega)) (skCells_zero b _ hm)).mono ?_
  rintro e w1 ⟨rfl, rfl⟩
  exact ⟨rfl, ⟨Blk.new _ _ _, by omega, by omega, by simp, fun x hx => by rw [List.eq_of_mem_replicate hx]; omega⟩, balloc (Below.refl _ _) _⟩

/-- The sketch's constant. -/
def alphaN (b : Nat) : Nat := if b = 4 then 6730 else if b = 5 then 6970 else if b = 6 then 7090 else 72130000 * 2 ^ b / (10000 * 2 ^ b + 10790)

theorem alpha_any (g b : Nat) (w : World) (c0 : w.cell? ⟨g, 0, none⟩ = some (.int .i64 b)) (h : b = 4 ∨ b = 5 ∨ b = 6 ∨ b = 7 ∨ b = 8 ∨ b = 9 ∨ b = 10) :
    Calls Tryd.prog 43 #[.pointer (some ⟨g, 0, none⟩)] w fun e w' => e = .returned (.int .u64 (alphaN b)) ∧ Below w.heap.size w w' := by
  have hg : g < w.heap.size := Blk.lt_cell c0
  rcases h with rfl | rfl | rfl | rfl | rfl | rfl | rfl
  all_goals
    go_enter Tryd.func43, Tryd.ntmps43
    go_wp2_with fail
    go_ret
    exact ⟨ret_int (by decide +kernel), balloc (Below.refl _ _) _⟩

theorem Registers_any (g b : Nat) (r : List Int) (w : World) (h : Sk w g b r) :
    Calls Tryd.prog 30 #[.pointer (some ⟨g, 0, none⟩)] w fun e w' => e = .returned (.string (strOfNums r)) ∧ w = w' := by
  have hcv := run_convert_bytes_arg (P := Tryd.prog) w 39 5 Tryd.underlying39 Tryd.underlying5 g 1 (2 ^ b) (2 ^ b) r h.len h.cell 9 Tryd.underlying9
  go_enter Tryd.func30, Tryd.ntmps30
  go_wp2_with fail
  refine (used_any g b r _ h).mono ?_
  rintro e w1 ⟨rfl, rfl⟩
  clear h
  generalize 2 ^ b = m at *
  go_wp2_with fail
  go_ret
  exact ⟨rfl, rfl⟩

theorem Sk.zeros {g b : Nat} : ∀ (n k : Nat) (r : List Int) (w : World), k + n ≤ 2 ^ b → Sk w g b r →
    Sk (w.setCells g (1 + k) (List.replicate n (.int .u8 0))) g b (r.take k ++ List.replicate n 0 ++ r.drop (k + n)) ∧ w.grownBy (w.setCells g (1 + k) (List.replicate n (.int .u8 0))) (some g)
  | 0, k, r, w, hk, h => by
    simp only [List.replicate_zero, World.setCells, List.append_nil, Nat.add_zero, List.take_append_drop]
    exact ⟨h, only_refl _ _⟩
  | n + 1, k, r, w, hk, h => by
    have h1 := h.put k 0 (by omega) (Int.le_refl _) (by omega)
    obtain ⟨h2, h3⟩ := Sk.zeros n (k + 1) (r.set k 0) _ (by omega) h1
    simp only [List.replicate_succ, World.setCells]
    have hkl : k < r.length := by rw [h.len]; omega
    have e : r.take k ++ 0 :: List.replicate n 0 ++ r.drop (k + (n + 1)) = (r.set k 0).take (k + 1) ++ List.replicate n 0 ++ (r.set k 0).drop (k + 1 + n) := by
      rw [List.take_set, List.drop_set, if_pos (by omega), List.take_succ_eq_append_getElem hkl, List.set_append_right _ _ (by rw [List.length_take]; omega)]
      have e2 : k - (r.take k).length = 0 := by rw [List.length_take]; omega
      rw [e2]
      simp [Nat.add_assoc, Nat.add_comm 1 n]
    rw [e]
    exact ⟨h2, only_trans (only_set _ _ _ _) h3⟩

theorem Clear_any (g b : Nat) (r : List Int) (w : World) (h : Sk w g b r) :
    Calls Tryd.prog 34 #[.pointer (some ⟨g, 0, none⟩)] w fun e w' => e = .returned (.tuple #[]) ∧ Sk w' g b (List.replicate (2 ^ b) 0) ∧ w.grownBy w' (some g) := by
  have hcl : ∀ ty, (Builtin.clear_ #[39] ty #[.slice (some ⟨g, 1, none⟩) (2 ^ b) (2 ^ b)]).run Tryd.prog w = .ok (.tuple #[]) (w.setCells g 1 (List.replicate (2 ^ b) (.int .u8 0))) :=
    fun ty => Lib.run_clear_slice w 39 5 ty (.int .u8 0) Tryd.underlying39 Tryd.zeroValue5 rfl rfl g 1 (2 ^ b) (2 ^ b) (Nat.two_pow_pos b) (fun j hj => by rw [h.cell j hj]; rfl) (fun j hj => h.frozen _)
  obtain ⟨hz, hg⟩ := Sk.zeros (2 ^ b) 0 r w (by omega) h
  rw [Nat.add_zero] at hz hg
  have e : r.take 0 ++ List.replicate (2 ^ b) 0 ++ r.drop (0 + 2 ^ b) = List.replicate (2 ^ b) 0 := by
    rw [Nat.zero_add, ← h.len]; simp
  rw [e] at hz
  have HZ := Lib.hid hz
  have HG := Lib.hid hg
  clear hz hg e
  go_enter Tryd.func34, Tryd.ntmps34
  go_wp2_with fail
  refine (used_any g b r _ h).mono ?_
  rintro e w1 ⟨rfl, rfl⟩
  clear h
  generalize hm : 2 ^ b = m at *
  have HM := Lib.hid hm
  clear hm
  generalize w.setCells g 1 (List.replicate m (.int .u8 0)) = w2 at *
  go_wp2_with fail
  go_end0
  exact ⟨rfl, by rw [HM.out]; exact HZ.out, HG.out⟩

end Go.Proofs.YtapiehddcdnadaaDoor

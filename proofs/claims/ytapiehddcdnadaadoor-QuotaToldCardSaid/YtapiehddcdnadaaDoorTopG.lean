/- order. -/
import Derived.Test.YtapiehddcdnadaaDoorTopF
import Derived.Test.YtapiehddcdnadaaDoorShelf
import Derived.Deep.RegionWith
namespace Go.Proofs.YtapiehddcdnadaaDoor
open Go.RowKit
set_option linter.unusedVariables false
set_option linter.unusedSimpArgs false

theorem nanS (x : ByteArray) (w : World) : Calls Tryd.prog 66 #[.string x] w fun e w' => e = .returned (.bool false) ∧ w' = w := by
  have h1 : (x.toList == x.toList) = true := by simp
  go_enter Tryd.func66, Tryd.ntmps66
  go_wp2_with fail
  go_ret
  exact ⟨by simp, rfl⟩
def cmpS (a b : ByteArray) : Int := if a.data.toList < b.data.toList then -1 else if b.data.toList < a.data.toList then 1 else 0
theorem cmpStr (a b : ByteArray) (w : World) : Calls Tryd.prog 54 #[.string a, .string b] w fun e w' => e = .returned (.int .i64 (cmpS a b)) ∧ w' = w := by
  by_cases h : a.data.toList < b.data.toList
  · have e : cmpS a b = -1 := if_pos h
    rw [e]
    have h1 : Op.bytesLess a.toList b.toList = true := by rw [less_iff]; simpa using h
    clear e
    go_enter Tryd.func54, Tryd.ntmps54
    go_wp2_with (first | (go_at_call 66; refine (nanS _ _).mono ?_; rintro e w1 ⟨rfl, rfl⟩))
    go_ret
    exact ⟨rfl, rfl⟩
  · have h1 : Op.bytesLess a.toList b.toList = false := by rw [less_iff]; simpa using h
    by_cases h2 : b.data.toList < a.data.toList
    · have e : cmpS a b = 1 := by unfold cmpS; rw [if_neg h, if_pos h2]
      rw [e]
      have hne : (a.toList == b.toList) = false := by
        rw [Lib.toList_data, Lib.toList_data]
        simp only [beq_eq_false_iff_ne]
        intro e2
        rw [e2] at h2
        exact l_irr _ h2
      clear e
      go_enter Tryd.func54, Tryd.ntmps54
      go_wp2_with (first | (go_at_call 66; refine (nanS _ _).mono ?_; rintro e w1 ⟨rfl, rfl⟩))
      go_ret
      exact ⟨rfl, rfl⟩
    · have e : cmpS a b = 0 := by unfold cmpS; rw [if_neg h, if_neg h2]
      rw [e]
      have hne : (a.toList == b.toList) = true := by
        rw [Lib.toList_data, Lib.toList_data]
        simp only [beq_iff_eq]
        exact l_an h h2
      clear e
      go_enter Tryd.func54, Tryd.ntmps54
      go_wp2_with (first | (go_at_call 66; refine (nanS _ _).mono ?_; rintro e w1 ⟨rfl, rfl⟩))
      go_ret
      exact ⟨rfl, rfl⟩
theorem or_call (g : Nat) (a b : Int) (w : World) (hg : Blk w g 3 #[.int .i64 a, .int .i64 b]) : Calls Tryd.prog 52 #[.slice (some ⟨g, 0, none⟩) 2 2] w fun e w' => e = .returned (.int .i64 (if a = 0 then b else a)) ∧ w' = w := by
  have c0 : w.cell? ⟨g, 0, none⟩ = some (.int .i64 a) := hg.cellAt 0 rfl
  have c1 : w.cell? ⟨g, 1, none⟩ = some (.int .i64 b) := hg.cellAt 1 rfl
  have hlt := hg.lt
  by_cases h : a = 0
  · subst h
    rw [if_pos rfl]
    by_cases h2 : b = 0
    · subst h2
      go_enter Tryd.func52, Tryd.ntmps52
      go_wp2_with fail
      go_loopw [8] (fun i wr => ∃ j : Nat, j ≤ 2 ∧ i = .int .i64 j ∧ wr = w) (fun i _ => 2 - (intOf i).toNat)
      case atStart => exact ⟨0, by omega, rfl, rfl⟩
      case round =>
        obtain ⟨j, hj, rfl, rfl⟩ := hrel
        by_cases hj2 : j < 2
        · have hj3 : (j : Int) < 2 := by omega
          have cj : wr.cell? ⟨g, j, none⟩ = some (.int .i64 0) := by
            rcases Nat.lt_or_ge j 1 with h | h
            · rw [show j = 0 by omega]; exact c0
            · rw [show j = 1 by omega]; exact c1
          clear c0 c1
          go_wp2_with fail
          go_roundw
          case rel => exact ⟨j + 1, by omega, by go_num, by first | trivial | rfl⟩
          case measure => simp [intOf]; omega
        · obtain rfl : j = 2 := by omega
          go_wp2_with fail
          go_ret
          exact ⟨rfl, rfl⟩
    · have hb : (b == 0) = false := by simpa using h2
      go_enter Tryd.func52, Tryd.ntmps52
      go_wp2_with fail
      go_loopw [8] (fun i wr => ∃ j : Nat, j ≤ 1 ∧ i = .int .i64 j ∧ wr = w) (fun i _ => 2 - (intOf i).toNat)
      case atStart => exact ⟨0, by omega, rfl, rfl⟩
      case round =>
        obtain ⟨j, hj, rfl, rfl⟩ := hrel
        by_cases hj2 : j < 1
        · obtain rfl : j = 0 := by omega
          go_wp2_with fail
          go_roundw
          case rel => exact ⟨1, by omega, by go_num, by first | trivial | rfl⟩
          case measure => simp [intOf]
        · obtain rfl : j = 1 := by omega
          go_wp2_with fail
          go_ret
          exact ⟨rfl, rfl⟩
  · rw [if_neg h]
    have hb : (a == 0) = false := by simpa using h
    go_enter Tryd.func52, Tryd.ntmps52
    go_wp2_with fail
    go_loopw [8] (fun i wr => i = .int .i64 0 ∧ wr = w) (fun i _ => 2 - (intOf i).toNat)
    case atStart => exact ⟨rfl, rfl⟩
    case round =>
      obtain ⟨rfl, rfl⟩ := hrel
      go_wp2_with fail
      go_ret
      exact ⟨rfl, rfl⟩

/-- Draws and new blocks alone. -/
def Lays (w w' : World) : Prop := ∃ q os', w' = Go.Sort.grow (w.drewN q) os'
theorem Lays.refl (w : World) : Lays w w := ⟨0, #[], by simp [Go.Sort.grow, World.drewN]⟩
theorem Lays.alloc {w w' : World} (h : Lays w w') (o : Obj) : Lays w (w'.alloc o) := by
  obtain ⟨q, os, rfl⟩ := h
  exact ⟨q, os ++ #[o], by rw [Go.Sort.alloc_eq_grow, Go.Sort.grow_grow]⟩
theorem Lays.drew {w w' : World} (h : Lays w w') : Lays w w'.drew := by
  obtain ⟨q, os, rfl⟩ := h
  exact ⟨q + 1, os, rfl⟩
theorem Lays.below {w w' : World} (h : Lays w w') : Below w.heap.size w w' := by
  obtain ⟨q, os, rfl⟩ := h
  exact ⟨rfl, rfl, rfl, by simp [Go.Sort.grow, World.drewN], fun i hi => by
    show (w.heap ++ os)[i]? = _
    rw [Array.getElem?_append_left hi]⟩
theorem cmpI_eq (a b : It) : (if cmpN b.many a.many = 0 then cmpS a.name b.name else cmpN b.many a.many) = cmpI a b := by
  unfold cmpN cmpS cmpI
  by_cases h1 : b.many < a.many
  · simp [h1]
  · by_cases h2 : a.many < b.many <;> simp [h1, h2]

end Go.Proofs.YtapiehddcdnadaaDoor

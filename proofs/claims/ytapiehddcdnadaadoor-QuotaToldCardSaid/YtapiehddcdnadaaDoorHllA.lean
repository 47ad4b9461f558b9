/- The sketch in memory, and what its small functions do (Bits, used, raise): each returns what its plain Lean twin says, and leaves what it says. A sketch of 4 to 10 bits. -/
import Derived.Test.YtapiehddcdnadaaDoorProg
import Derived.Test.YtapiehddcdnadaaDoorAux
namespace Go.Proofs.YtapiehddcdnadaaDoor
open Go.RowKit
set_option linter.unusedVariables false
set_option linter.unusedSimpArgs false

/-- A sketch's cells. -/
def skCells (b : Nat) (r : List Int) : Array Value := (Value.int .i64 b :: (r.map (Value.int .u8) ++ List.replicate (1024 - r.length) (Value.int .u8 0))).toArray

/-- Block g is a sketch of b bits whose registers are r. -/
structure Sk (w : World) (g : Nat) (b : Nat) (r : List Int) : Prop where
  blk : Blk w g 81 (skCells b r)
  lo : 4 ≤ b
  hi : b ≤ 10
  len : r.length = 2 ^ b
  wf : ∀ x ∈ r, 0 ≤ x ∧ x ≤ 26

theorem Sk.bits_cases {w : World} {g b : Nat} {r : List Int} (h : Sk w g b r) : b = 4 ∨ b = 5 ∨ b = 6 ∨ b = 7 ∨ b = 8 ∨ b = 9 ∨ b = 10 := by
  have := h.lo; have := h.hi; omega

theorem Sk.cell0 {w : World} {g b : Nat} {r : List Int} (h : Sk w g b r) : w.cell? ⟨g, 0, none⟩ = some (.int .i64 b) := h.blk.cellAt 0 (by simp [skCells])

theorem Bits_any (g b : Nat) (r : List Int) (w : World) (h : Sk w g b r) :
    Calls Tryd.prog 27 #[.pointer (some ⟨g, 0, none⟩)] w fun e w' => e = .returned (.int .i64 b) ∧ w = w' := by
  have c0 := h.cell0
  go_enter Tryd.func27, Tryd.ntmps27
  go_wp2
  go_ret
  exact ⟨rfl, rfl⟩

theorem used_any (g b : Nat) (r : List Int) (w : World) (h : Sk w g b r) :
    Calls Tryd.prog 42 #[.pointer (some ⟨g, 0, none⟩)] w fun e w' => e = .returned (.slice (some ⟨g, 1, none⟩) (2 ^ b) (2 ^ b)) ∧ w = w' := by
  have c0 := h.cell0
  rcases h.bits_cases with rfl | rfl | rfl | rfl | rfl | rfl | rfl
  all_goals
    go_enter Tryd.func42, Tryd.ntmps42
    go_wp2
    go_ret
    exact ⟨rfl, rfl⟩

theorem used_m (g b m : Nat) (r : List Int) (w : World) (h : Sk w g b r) (hm : 2 ^ b = m) :
    Calls Tryd.prog 42 #[.pointer (some ⟨g, 0, none⟩)] w fun e w' => e = .returned (.slice (some ⟨g, 1, none⟩) m m) ∧ w = w' := by
  subst hm
  exact used_any g b r w h

theorem Sk.cell {w : World} {g b : Nat} {r : List Int} (h : Sk w g b r) (k : Nat) (hk : k < 2 ^ b) : w.cell? ⟨g, 1 + k, none⟩ = some (.int .u8 (r.getD k 0)) := by
  refine h.blk.cellAt (1 + k) ?_
  have hl := h.len
  have hk' : k < r.length := by omega
  simp only [skCells, List.getElem?_toArray]
  rw [Nat.add_comm, List.getElem?_cons_succ, List.getElem?_append_left (by simpa using hk')]
  simp [List.getD_eq_getElem?_getD, List.getElem?_eq_getElem hk']

theorem Sk.frozen {w : World} {g b : Nat} {r : List Int} (h : Sk w g b r) (i : Nat) : w.frozen? ⟨g, i, none⟩ = false := h.blk.frozen i

theorem skCells_set (b : Nat) (r : List Int) (k : Nat) (v : Int) (hk : k < r.length) : (skCells b r).setIfInBounds (1 + k) (.int .u8 v) = skCells b (r.set k v) := by
  simp only [skCells, List.setIfInBounds_toArray, List.length_set]
  congr 1
  rw [Nat.add_comm, List.set_cons_succ, List.set_append_left _ _ (by simpa using hk)]
  simp

theorem Sk.put {w : World} {g b : Nat} {r : List Int} (h : Sk w g b r) (k : Nat) (v : Int) (hk : k < 2 ^ b) (h0 : 0 ≤ v) (h1 : v ≤ 26) : Sk (w.setCell ⟨g, 1 + k, none⟩ (.int .u8 v)) g b (r.set k v) where
  blk := by
    have h2 := h.blk.put (1 + k) (.int .u8 v)
    rw [skCells_set b r k v (by rw [h.len]; exact hk)] at h2
    exact h2
  lo := h.lo
  hi := h.hi
  len := by rw [List.length_set]; exact h.len
  wf := by
    intro x hx
    rcases List.mem_or_eq_of_mem_set hx with h2 | h2
    · exact h.wf x h2
    · subst h2; exact ⟨h0, h1⟩

theorem Sk.get {w : World} {g b : Nat} {r : List Int} (h : Sk w g b r) (k : Nat) : 0 ≤ r.getD k 0 ∧ r.getD k 0 ≤ 26 := by
  rw [List.getD_eq_getElem?_getD]
  rcases Nat.lt_or_ge k r.length with hk | hk
  · rw [List.getElem?_eq_getElem hk]
    exact h.wf _ (List.getElem_mem hk)
  · rw [List.getElem?_eq_none hk]
    simp

theorem Sk.lt {w : World} {g b : Nat} {r : List Int} (h : Sk w g b r) : g < w.heap.size := h.blk.lt
theorem Sk.step {w w' : World} {g b : Nat} {r : List Int} (hb : Below w.heap.size w w') (h : Sk w g b r) : Sk w' g b r := ⟨Blk.step hb h.blk, h.lo, h.hi, h.len, h.wf⟩
theorem Sk.alloc {w : World} {g b : Nat} {r : List Int} (h : Sk w g b r) (o : Obj) : Sk (w.alloc o) g b r := ⟨h.blk.alloc o, h.lo, h.hi, h.len, h.wf⟩
theorem Sk.drewN {w : World} {g b : Nat} {r : List Int} (h : Sk w g b r) (n : Nat) : Sk (w.drewN n) g b r := ⟨h.blk, h.lo, h.hi, h.len, h.wf⟩
theorem Sk.grown {w w' : World} {g b : Nat} {r : List Int} {row : Option Nat} (hb : w.grownBy w' row) (h : Sk w g b r) (hg : some g ≠ row) : Sk w' g b r := ⟨Blk.grown hb h.blk hg, h.lo, h.hi, h.len, h.wf⟩

theorem only_set (w : World) (g i : Nat) (u : Value) : w.grownBy (w.setCell ⟨g, i, none⟩ u) (some g) := only_setCell (only_refl w (some g)) (.inl rfl) u

theorem raise_any (g b : Nat) (r : List Int) (k : Nat) (n : Int) (w : World) (h : Sk w g b r) (hk : k < 2 ^ b) (h0 : 0 ≤ n) (h1 : n ≤ 26) :
    Calls Tryd.prog 37 #[.pointer (some ⟨g, 0, none⟩), .int .i64 k, .int .u8 n] w fun e w' => e = .returned (.bool (decide (r.getD k 0 < n))) ∧ Sk w' g b (r.set k (max (r.getD k 0) n)) ∧ w.grownBy w' (some g) := by
  have hc := h.cell k hk
  have hv := h.get k
  have hf := h.frozen (1 + k)
  have hm : 2 ^ b ≤ 1024 := by have := Nat.pow_le_pow_right (n := 2) (by omega) h.hi; simpa using this
  have hM := h.put k (max (r.getD k 0) n) hk (by omega) (by omega)
  generalize r.set k (max (r.getD k 0) n) = r' at *
  generalize r.getD k 0 = v at *
  have Hk := hk
  have hk1 : (k : Int) < ((2 ^ b : Nat) : Int) := by omega
  go_enter Tryd.func37, Tryd.ntmps37
  go_wp2_with fail
  refine (used_any g b r _ h).mono ?_
  rintro e w1 ⟨rfl, rfl⟩
  clear h
  generalize 2 ^ b = m at *
  go_wp2_with fail
  all_goals go_ret
  · have e : max v n = n := by omega
    rw [e] at hM
    exact ⟨ret_bool (by simp), hM, only_set _ _ _ _⟩
  · have e : max v n = v := by omega
    rw [e] at hM
    exact ⟨ret_bool (by simp), hM, only_set _ _ _ _⟩
end Go.Proofs.YtapiehddcdnadaaDoor

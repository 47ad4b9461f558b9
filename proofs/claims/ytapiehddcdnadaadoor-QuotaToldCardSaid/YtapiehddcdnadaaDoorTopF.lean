/- New, Seen, Room, Clear, Least. -/
import Derived.Test.YtapiehddcdnadaaDoorTopE
namespace Go.Proofs.YtapiehddcdnadaaDoor
open Go.RowKit
set_option linter.unusedVariables false
set_option linter.unusedSimpArgs false

theorem fldI_1 (a : ByteArray) (b c : Int) (w : World) : (Instr.field 52 (.agg #[.string a, .int .u64 b, .int .u64 c]) 1).run Tryd.prog w = .ok (.int .u64 b) w := by kernel_rfl
attribute [local go_sem] fldI_1
theorem new_no (k : Int) (hk : k < 1 ∨ 16 < k) (w : World) : Calls Tryd.prog 21 #[.int .i64 k] w fun e w' => e = .returned (.tuple #[.pointer none, .int .i64 1]) ∧ w' = w := by
  by_cases h : k < 1
  · clear hk
    go_enter Tryd.func21, Tryd.ntmps21
    go_wp2_with fail
    go_ret2
    exact ⟨rfl, rfl⟩
  · have h2 : 16 < k := by omega
    clear hk
    go_enter Tryd.func21, Tryd.ntmps21
    go_wp2_with fail
    go_ret2
    exact ⟨rfl, rfl⟩
theorem new_yes (k : Nat) (h0 : 1 ≤ k) (h1 : k ≤ 16) (base : Nat) (w : World) (hb : base ≤ w.heap.size) : Calls Tryd.prog 21 #[.int .i64 k] w fun e w' => e = .returned (.tuple #[.pointer (some ⟨w.heap.size, 0, none⟩), .int .i64 0]) ∧ Tp w' base w.heap.size k 0 none 0 0 [] ∧ Below w.heap.size w w' ∧ w.heap.size < w'.heap.size := by
  have a1 : ¬ (k : Int) < 1 := by omega
  have a2 : ¬ (16 : Int) < k := by omega
  go_enter Tryd.func21, Tryd.ntmps21
  go_wp2_with fail
  go_ret2
  exact ⟨rfl, ⟨Blk.new w _ _, Its.nil, hb, ⟨h0, h1⟩, Nat.zero_le _, Nat.zero_le _, fun x hx => by cases hx⟩, balloc (Below.refl _ _) _, by simp⟩
theorem seen_call {base g room seen : Nat} {A : Option Addr} {n c : Nat} {l : List It} {w : World} (T : Tp w base g room seen A n c l) :
    Calls Tryd.prog 31 #[.pointer (some ⟨g, 0, none⟩)] w fun e w' => e = .returned (.int .u64 seen) ∧ w' = w := by
  have c2 : w.cell? ⟨g, 2, none⟩ = some (.int .u64 seen) := T.blk.cellAt 2 rfl
  have hlt := T.blk.lt
  go_enter Tryd.func31, Tryd.ntmps31
  go_wp2_with fail
  go_ret
  exact ⟨rfl, rfl⟩
theorem least_min {l : List It} {x : It} (hx : x ∈ l) (h : ∀ y ∈ l, x.many ≤ y.many) : x.many = (l.getD (worst l) default).many := by
  have hl : l ≠ [] := fun e => by subst e; cases hx
  have h1 := worst_min l x hx
  have h2 := h _ (worstI_mem hl)
  unfold worstI at h2
  omega
end Go.Proofs.YtapiehddcdnadaaDoor

/- The reference's New, before, worst, Least. -/
import Derived.Test.YtcbheekfdhklcaaTopX
import Derived.Test.YtcbheekfdhklcaaTopG2
namespace Go.Proofs.Ytcbheekfdhklcaa
open Go.RowKit
set_option linter.unusedVariables false
set_option linter.unusedSimpArgs false

theorem rnew_no (k : Int) (hk : k < 1 ∨ 16 < k) (w : World) : Calls Try.prog 16 #[.int .i64 k] w fun e w' => e = .returned (.pointer none) ∧ w' = w := by
  by_cases h : k < 1
  · clear hk
    go_enter Try.func16, Try.ntmps16
    go_wp2_with fail
    go_ret
    exact ⟨rfl, rfl⟩
  · have h2 : 16 < k := by omega
    clear hk
    go_enter Try.func16, Try.ntmps16
    go_wp2_with fail
    go_ret
    exact ⟨rfl, rfl⟩
theorem rnew_yes (k : Nat) (h0 : 1 ≤ k) (h1 : k ≤ 16) (base : Nat) (w : World) (hb : base ≤ w.heap.size) : Calls Try.prog 16 #[.int .i64 k] w fun e w' => e = .returned (.pointer (some ⟨w.heap.size, 0, none⟩)) ∧ Rp w' base w.heap.size k 0 none 0 0 [] ∧ Below w.heap.size w w' := by
  have a1 : ¬ (k : Int) < 1 := by omega
  have a2 : ¬ (16 : Int) < k := by omega
  go_enter Try.func16, Try.ntmps16
  go_wp2_with fail
  go_ret
  exact ⟨rfl, ⟨Blk.new w _ _, RIts.nil, hb, ⟨h0, h1⟩, Nat.zero_le _, Nat.zero_le _, fun x hx => by cases hx⟩, balloc (Below.refl _ _) _⟩
theorem before_call (a b : It) (w : World) : Calls Try.prog 35 #[.agg #[.string a.name, .int .u64 a.many, .int .u64 a.over], .agg #[.string b.name, .int .u64 b.many, .int .u64 b.over]] w fun e w' => e = .returned (.bool (ahead a b)) ∧ Lays w w' := by
  have L2 : ∀ o1 o2, Lays w ((w.alloc o1).alloc o2) := fun o1 o2 => ((Lays.refl w).alloc _).alloc _
  rcases Nat.lt_trichotomy b.many a.many with h | h | h
  · have e : ahead a b = true := (ahead_iff a b).2 (.inl h)
    rw [e]
    have h1 : (b.many : Int) < a.many := by omega
    clear e h
    go_enter Try.func35, Try.ntmps35
    go_wp2_with fail
    go_ret
    exact ⟨rfl, L2 _ _⟩
  · cases hl : Op.bytesLess a.name.toList b.name.toList
    · have hn : ¬ a.name.data.toList < b.name.data.toList := by rw [less_iff] at hl; simpa using hl
      have e : ahead a b = false := (ahead_no a b).2 (by rintro (h2 | ⟨_, h2⟩); omega; exact hn h2)
      rw [e]
      have h1 : ¬ (b.many : Int) < a.many := by omega
      have h2 : ((a.many : Int) == b.many) = true := by simp; omega
      clear e h hn
      go_enter Try.func35, Try.ntmps35
      go_wp2_with fail
      go_ret
      exact ⟨rfl, L2 _ _⟩
    · have hn : a.name.data.toList < b.name.data.toList := by rw [less_iff] at hl; simpa using hl
      have e : ahead a b = true := (ahead_iff a b).2 (.inr ⟨h.symm, hn⟩)
      rw [e]
      have h1 : ¬ (b.many : Int) < a.many := by omega
      have h2 : ((a.many : Int) == b.many) = true := by simp; omega
      clear e h hn
      go_enter Try.func35, Try.ntmps35
      go_wp2_with fail
      go_ret
      exact ⟨rfl, L2 _ _⟩
  · have e : ahead a b = false := (ahead_no a b).2 (by rintro (h2 | ⟨h2, _⟩) <;> omega)
    rw [e]
    have h1 : ¬ (b.many : Int) < a.many := by omega
    have h2 : ((a.many : Int) == b.many) = false := by simp; omega
    clear e h
    go_enter Try.func35, Try.ntmps35
    go_wp2_with fail
    go_ret
    exact ⟨rfl, L2 _ _⟩
end Go.Proofs.Ytcbheekfdhklcaa

/- A deed's name. -/
import Derived.Test.YtcbheekfdhklcaaTopZ2
import Derived.Test.YtcbheekfdhklcaaTopMa
namespace Go.Proofs.Ytcbheekfdhklcaa
open Go.RowKit
set_option linter.unusedVariables false
set_option linter.unusedSimpArgs false

def dname (k : Nat) (s : ByteArray) : ByteArray := if 240 < k then s else nmOf (k % 26)
theorem dname_size (k : Nat) (s : ByteArray) (h : s.size ≤ 140737488355328) : (dname k s).size ≤ 140737488355328 := by
  unfold dname
  split
  · exact h
  · rw [nmOf_size]; omega
theorem name_call (k : Nat) (s : ByteArray) (b : Nat) (w : World) (hk : k ≤ 255) :
    Calls Try.prog 18 #[.agg #[.int .u8 k, .string s, .int .u64 b]] w fun e w' => e = .returned (.string (dname k s)) ∧ Lays w w' := by
  by_cases h : 240 < k
  · have e : dname k s = s := if_pos h
    rw [e]
    have h1 : (240 : Int) < k := by omega
    clear e
    go_enter Try.func18, Try.ntmps18
    go_wp2_with fail
    go_ret
    exact ⟨rfl, (Lays.refl w).alloc _⟩
  · have e : dname k s = nmOf (k % 26) := if_neg h
    rw [e]
    have h1 : ¬ (240 : Int) < k := by omega
    have q2 : ((k : Int) % 26) = ((k % 26 : Nat) : Int) := by omega
    have q3 : (k : Int).tmod 26 = ((k % 26 : Nat) : Int) := by rw [Int.tmod_eq_emod_of_nonneg (by omega)]; exact q2
    have hl : k % 26 < 26 := by omega
    generalize k % 26 = c at *
    have q5 : IntKind.u8.wrap (97 + (c : Int)) = 97 + (c : Int) := by simp [IntKind.wrap, IntKind.bits, IntKind.signed]; omega
    have hcv := conv1 ((w.alloc (.cells #[.int .u8 k, .string s, .int .u64 b] 46)).alloc (.cells #[.int .u8 (97 + (c : Int))] 5)) (w.heap.size + 1) c (Blk.newAt (by simp))
    clear e
    go_enter Try.func18, Try.ntmps18
    go_wp2_with fail
    go_ret
    exact ⟨rfl, ((Lays.refl w).alloc _).alloc _⟩
end Go.Proofs.Ytcbheekfdhklcaa

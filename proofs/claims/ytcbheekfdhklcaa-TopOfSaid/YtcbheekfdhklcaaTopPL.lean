/- Add at a name of any length. -/
import Derived.Test.YtcbheekfdhklcaaTopPR
namespace Go.Proofs.Ytcbheekfdhklcaa
open Go.RowKit
set_option linter.unusedVariables false
set_option linter.unusedSimpArgs false

theorem addE_over (seen : Nat) (nm : ByteArray) (b : Nat) (h : 64 < nm.size) : addE seen nm b = 1 := by unfold addE; rw [if_pos (.inl h)]
theorem add_long (p : Value) (nm : ByteArray) (by_ : Nat) (w : World) (h : 64 < nm.size) : Calls Try.prog 11 #[p, .string nm, .int .u64 by_] w fun e w' => e = .returned (.int .i64 1) ∧ w' = w := by
  have h1 : (64 : Int) < nm.size := by omega
  go_enter Try.func11, Try.ntmps11
  go_wp2_with fail
  go_ret
  exact ⟨rfl, rfl⟩
theorem radd_long (p : Value) (nm : ByteArray) (by_ : Nat) (w : World) (h : 64 < nm.size) : Calls Try.prog 17 #[p, .string nm, .int .u64 by_] w fun e w' => e = .returned (.int .i64 1) ∧ w' = w := by
  have h1 : (64 : Int) < nm.size := by omega
  go_enter Try.func17, Try.ntmps17
  go_wp2_with fail
  go_ret
  exact ⟨rfl, rfl⟩
section
variable {W w w' : World} {base g h room s1 s2 : Nat} {L1 L2 : List It}
theorem pr_any1 (nm : ByteArray) (by_ : Nat) (hby : by_ < 18446744073709551616) (H : PR W base g h room s1 s2 L1 L2 w) :
    Calls Try.prog 11 #[.pointer (some ⟨g, 0, none⟩), .string nm, .int .u64 by_] w fun e w' => e = .returned (.int .i64 (addE s1 nm by_)) ∧ PR W base g h room (stepS s1 nm by_) s2 (stepT room s1 L1 nm by_) L2 w' := by
  by_cases hl : 64 < nm.size
  · have he := addE_over s1 nm by_ hl
    have e1 : stepS s1 nm by_ = s1 := if_neg (by omega)
    have e2 : stepT room s1 L1 nm by_ = L1 := if_neg (by omega)
    rw [he, e1, e2]
    refine (add_long _ nm by_ w hl).mono ?_
    rintro e w1 ⟨rfl, rfl⟩
    exact ⟨rfl, H⟩
  · exact pr_add1 nm by_ hby (by omega) H
theorem pr_any2 (nm : ByteArray) (by_ : Nat) (hby : by_ < 18446744073709551616) (H : PR W base g h room s1 s2 L1 L2 w) :
    Calls Try.prog 17 #[.pointer (some ⟨h, 0, none⟩), .string nm, .int .u64 by_] w fun e w' => e = .returned (.int .i64 (addE s2 nm by_)) ∧ PR W base g h room s1 (stepS s2 nm by_) L1 (stepT room s2 L2 nm by_) w' := by
  by_cases hl : 64 < nm.size
  · have he := addE_over s2 nm by_ hl
    have e1 : stepS s2 nm by_ = s2 := if_neg (by omega)
    have e2 : stepT room s2 L2 nm by_ = L2 := if_neg (by omega)
    rw [he, e1, e2]
    refine (radd_long _ nm by_ w hl).mono ?_
    rintro e w1 ⟨rfl, rfl⟩
    exact ⟨rfl, H⟩
  · exact pr_add2 nm by_ hby (by omega) H
end
end Go.Proofs.Ytcbheekfdhklcaa

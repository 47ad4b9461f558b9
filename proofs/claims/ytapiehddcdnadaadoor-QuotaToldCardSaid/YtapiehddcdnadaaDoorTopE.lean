/- New, Seen, Room, Clear, Least. -/
import Derived.Test.YtapiehddcdnadaaDoorTopD
import Derived.Sort.Grow
import Derived.Handy
import Derived.Deep.CutBlock
import Derived.Deep.DeepCutAuto
namespace Go.Proofs.YtapiehddcdnadaaDoor
open Go.RowKit
set_option linter.unusedVariables false
set_option linter.unusedSimpArgs false

theorem nan64 (x : Int) (w : World) : Calls Tryd.prog 65 #[.int .u64 x] w fun e w' => e = .returned (.bool false) ∧ w' = w := by
  have h1 : (x == x) = true := by simp
  go_enter Tryd.func65, Tryd.ntmps65
  go_wp2_with fail
  go_ret
  exact ⟨by simp, rfl⟩
def cmpN (a b : Nat) : Int := if a < b then -1 else if b < a then 1 else 0
theorem cmp64 (a b : Nat) (w : World) : Calls Tryd.prog 53 #[.int .u64 a, .int .u64 b] w fun e w' => e = .returned (.int .i64 (cmpN a b)) ∧ w' = w := by
  rcases Nat.lt_trichotomy a b with h | h | h
  · have e : cmpN a b = -1 := if_pos h
    rw [e]
    clear e
    have h1 : (a : Int) < b := by omega
    go_enter Tryd.func53, Tryd.ntmps53
    go_wp2_with (first | (go_at_call 65; refine (nan64 _ _).mono ?_; rintro e w1 ⟨rfl, rfl⟩))
    go_ret
    exact ⟨rfl, rfl⟩
  · subst h
    have e : cmpN a a = 0 := by unfold cmpN; simp
    rw [e]
    clear e
    have h1 : ¬ (a : Int) < a := by omega
    go_enter Tryd.func53, Tryd.ntmps53
    go_wp2_with (first | (go_at_call 65; refine (nan64 _ _).mono ?_; rintro e w1 ⟨rfl, rfl⟩))
    go_ret
    exact ⟨rfl, rfl⟩
  · have e : cmpN a b = 1 := by unfold cmpN; rw [if_neg (by omega), if_pos h]
    rw [e]
    clear e
    have h1 : ¬ (a : Int) < b := by omega
    have h2 : (b : Int) < a := by omega
    go_enter Tryd.func53, Tryd.ntmps53
    go_wp2_with (first | (go_at_call 65; refine (nan64 _ _).mono ?_; rintro e w1 ⟨rfl, rfl⟩))
    go_ret
    exact ⟨rfl, rfl⟩

/-- An item's value. -/
def itV (x : It) : Value := .agg #[.string x.name, .int .u64 x.many, .int .u64 x.over]
theorem Blk.put3 {w : World} {g : Nat} {t : TypeId} {a b c : Value} (h : Blk w g t #[a, b, c]) (x y z : Value) : Blk (((w.setCell ⟨g, 0, none⟩ x).setCell ⟨g, 1, none⟩ y).setCell ⟨g, 2, none⟩ z) g t #[x, y, z] := ((h.put 0 x).put 1 y).put 2 z
theorem Blk.froz3 {w : World} {g : Nat} {t : TypeId} {cs : Array Value} (h : Blk w g t cs) (x y : Value) : w.frozen? ⟨g, 0, none⟩ = false ∧ (w.setCell ⟨g, 0, none⟩ x).frozen? ⟨g, 1, none⟩ = false ∧ ((w.setCell ⟨g, 0, none⟩ x).setCell ⟨g, 1, none⟩ y).frozen? ⟨g, 2, none⟩ = false := ⟨h.frozen 0, (h.put 0 x).frozen 1, ((h.put 0 x).put 1 y).frozen 2⟩

end Go.Proofs.YtapiehddcdnadaaDoor

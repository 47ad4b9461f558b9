/- TrailingZeros64, Rank, Add, New: each returns what its plain Lean twin says. The table of math/bits is where its initialiser laid it. -/
import Derived.Test.YtapiehddcdnadaaDoorHllA
import Derived.Test.YtapiehddcdnadaaDoorHllP
import Derived.Shelf.Spec.TrailingZeros
namespace Go.Proofs.YtapiehddcdnadaaDoor
open Go.RowKit
set_option linter.unusedVariables false
set_option linter.unusedSimpArgs false

/-- The table of math/bits, as its initialiser lays it. -/
def Tab (w : World) : Prop := TabAt 0 Lib.deBruijn64tab w
theorem Tab.lt {w : World} (h : Tab w) : 0 < w.heap.size := by
  have h0 := h 0 (by decide)
  rcases Nat.lt_or_ge 0 w.heap.size with hlt | hge
  · exact hlt
  · unfold World.cell? at h0
    rw [Array.getElem?_eq_none hge] at h0
    cases h0
theorem Tab.step {w w' : World} (hb : Below w.heap.size w w') (h : Tab w) : Tab w' := fun j hj => (hb.cell (p := ⟨0, j, none⟩) h.lt).trans (h j hj)

set_option maxHeartbeats 1000000 in
theorem tz_core (x k idx : Nat) (w : World) (hx0 : ((x : Int) == 0) = false)
    (key : IntKind.u64.wrap (bits BinOp.and IntKind.u64 (x : Int) (IntKind.u64.wrap (-(x : Int))) * 285870213051353865) / 288230376151711744 = (idx : Int))
    (hi : idx < 64) (hk : k < 64) (hcell : w.cell? ⟨0, idx, none⟩ = some (.int .u8 k)) :
    Calls Tryd.prog 48 #[.int .u64 x] w fun e w' => e = .returned (.int .i64 k) ∧ w = w' := by
  go_enter Tryd.func48, Tryd.ntmps48
  go_wp2_with (simp only [key])
  go_ret
  exact ⟨rfl, rfl⟩

theorem tz_zero (w : World) : Calls Tryd.prog 48 #[.int .u64 0] w fun e w' => e = .returned (.int .i64 64) ∧ w = w' := by
  go_enter Tryd.func48, Tryd.ntmps48
  go_wp2
  go_ret
  exact ⟨rfl, rfl⟩

theorem tz_any (x : Nat) (hx : x < 18446744073709551616) (w : World) (hT : Tab w) :
    Calls Tryd.prog 48 #[.int .u64 x] w fun e w' => e = .returned (.int .i64 (Lib.ctz 64 x)) ∧ w = w' := by
  by_cases hx0 : x = 0
  · subst hx0
    exact tz_zero w
  · obtain ⟨hlow, hk⟩ := Lib.lowest_bit 64 x hx0 hx
    obtain ⟨hi, htab⟩ := Lib.deBruijn64_at _ hk
    have hcell := hT _ hi
    rw [htab] at hcell
    exact tz_core x _ _ w (by simp; omega) (tz64_key x _ hx hx0 hlow) hi hk hcell

theorem ctz_le (x : Nat) : Lib.ctz 64 x ≤ 64 := by
  have : ∀ f x, Lib.ctzFrom f x ≤ f := by
    intro f
    induction f with
    | zero => intro x; simp [Lib.ctzFrom]
    | succ f ih =>
      intro x
      unfold Lib.ctzFrom
      split
      · omega
      · have := ih (x / 2); omega
  unfold Lib.ctz
  split
  · omega
  · exact this 64 x

/-- The shifts by a sketch's bits, as the walk spells them. -/
theorem shl1 (b : Nat) (h : b = 4 ∨ b = 5 ∨ b = 6 ∨ b = 7 ∨ b = 8 ∨ b = 9 ∨ b = 10) : IntKind.u64.wrap ((2 : Int) ^ min b 64) = ((2 ^ b : Nat) : Int) := by
  rcases h with rfl | rfl | rfl | rfl | rfl | rfl | rfl <;> decide +kernel
theorem shl1i (b : Nat) (h : b = 4 ∨ b = 5 ∨ b = 6 ∨ b = 7 ∨ b = 8 ∨ b = 9 ∨ b = 10) : IntKind.i64.wrap ((2 : Int) ^ min b 64) = ((2 ^ b : Nat) : Int) := by
  rcases h with rfl | rfl | rfl | rfl | rfl | rfl | rfl <;> decide +kernel

theorem rank_any (h b : Nat) (w : World) (hh : h < 18446744073709551616) (hb : b = 4 ∨ b = 5 ∨ b = 6 ∨ b = 7 ∨ b = 8 ∨ b = 9 ∨ b = 10) (hT : Tab w) :
    Calls Tryd.prog 38 #[.int .u64 h, .int .i64 b] w fun e w' => e = .returned (.int .i64 (rk h b)) ∧ w = w' := by
  have hx1 : h / 2 ^ b < 18446744073709551616 := Nat.lt_of_le_of_lt (Nat.div_le_self h _) hh
  have hc := ctz_le (h / 2 ^ b)
  have hr : rk h b = min (Lib.ctz 64 (h / 2 ^ b)) (64 - b) + 1 := rfl
  generalize rk h b = q at *
  obtain ⟨x, hx⟩ : ∃ x, h / 2 ^ b = x := ⟨_, rfl⟩
  rw [hx] at hx1 hc hr
  have htz := tz_any x hx1 w hT
  generalize Lib.ctz 64 x = z at *
  have HR := Lib.hid hr
  have HX := Lib.hid hx
  clear hr hx
  rcases hb with rfl | rfl | rfl | rfl | rfl | rfl | rfl
  all_goals
    go_enter Tryd.func38, Tryd.ntmps38
    go_wp2_with fail
    have hx := HX.out
    first
      | rw [show (h : Int) / 16 = x from by omega]
      | rw [show (h : Int) / 32 = x from by omega]
      | rw [show (h : Int) / 64 = x from by omega]
      | rw [show (h : Int) / 128 = x from by omega]
      | rw [show (h : Int) / 256 = x from by omega]
      | rw [show (h : Int) / 512 = x from by omega]
      | rw [show (h : Int) / 1024 = x from by omega]
    clear hx
    refine htz.mono ?_
    rintro e w1 ⟨rfl, rfl⟩
    go_wp2_with fail
    all_goals
      go_ret
      exact ⟨ret_int (by have := HR.out; omega), rfl⟩

theorem and_low (h b : Nat) (hh : h < 18446744073709551616) (hb : b ≤ 10) : bits .and .u64 (h : Int) (((2 ^ b : Nat) : Int) - 1) = ((h % 2 ^ b : Nat) : Int) := by
  have hp : 0 < 2 ^ b := Nat.two_pow_pos b
  have hm : 2 ^ b ≤ 1024 := by have := Nat.pow_le_pow_right (n := 2) (by omega) hb; simpa using this
  have e : (((2 ^ b : Nat) : Int) - 1) = ((2 ^ b - 1 : Nat) : Int) := by omega
  rw [e, bits_and_u64_nat h _ hh (by omega), Nat.and_two_pow_sub_one_eq_mod]

theorem Add_core (g b : Nat) (h m k : Nat) (q n : Int) (o : Bool) (R : World → Prop) (w : World) (hm0 : 16 ≤ m) (hm1 : m ≤ 1024) (hk : k < m) (hn0 : 1 ≤ n) (hn1 : n ≤ 26)
    (c0 : w.cell? ⟨g, 0, none⟩ = some (.int .i64 b))
    (hs : IntKind.u64.wrap ((2 : Int) ^ min b 64) = (m : Int))
    (hand : bits .and .u64 (h : Int) ((m : Int) - 1) = (k : Int))
    (hmin : (if (26 : Int) < q then 26 else q) = n)
    (hRc : Hid (∀ w', R w' → w'.cell? ⟨g, 0, none⟩ = some (.int .i64 b)))
    (hrk : Hid (∀ w', w'.heap = w.heap → Calls Tryd.prog 38 #[.int .u64 h, .int .i64 b] w' fun e w'' => e = .returned (.int .i64 q) ∧ w' = w''))
    (hrs : Hid (∀ w', w'.heap = w.heap → w.grownBy w' none → Calls Tryd.prog 37 #[.pointer (some ⟨g, 0, none⟩), .int .i64 k, .int .u8 n] w' fun e w'' => e = .returned (.bool o) ∧ R w'')) :
    Calls Tryd.prog 22 #[.pointer (some ⟨g, 0, none⟩), .int .u64 h] w fun e w' => e = .returned (.bool o) ∧ R w' := by
  have e1 : IntKind.u64.wrap ((m : Int) - 1) = (m : Int) - 1 := IntWalk.u64_in _ (by omega)
  have e2 : IntKind.i64.wrap (k : Int) = k := IntWalk.i64_in _ (by omega)
  have e3 : IntKind.u8.wrap n = n := IntWalk.u8_in _ (by omega)
  go_enter Tryd.func22, Tryd.ntmps22
  go_wp2_with fail
  go_region_held3 (fun w' => w'.cell? ⟨g, 0, none⟩ = some (.int .i64 b)) (first | exact c0 | exact hRc.out _ hR)
    (first | (go_at_call 38; ((with_reducible refine (hrk.out _ ?_).mono ?_); exact rfl; rintro e w1 ⟨rfl, rfl⟩)) | (go_at_call 37; ((with_reducible refine (hrs.out _ ?_ ?_).mono ?_); exact rfl; exact (only_drew (only_refl _ _)); rintro e w1 ⟨rfl, hR⟩)))
  go_wp2_with fail
  go_ret
  exact ⟨rfl, hR⟩

theorem Add_any (g b : Nat) (r : List Int) (h : Nat) (w : World) (hh : h < 18446744073709551616) (hS : Sk w g b r) (hT : Tab w) :
    Calls Tryd.prog 22 #[.pointer (some ⟨g, 0, none⟩), .int .u64 h] w fun e w' => e = .returned (.bool (addB b r h)) ∧ Sk w' g b (addR b r h) ∧ w.grownBy w' (some g) := by
  have hk : h % 2 ^ b < 2 ^ b := Nat.mod_lt _ (Nat.two_pow_pos b)
  have hm : 2 ^ b ≤ 1024 := by have := Nat.pow_le_pow_right (n := 2) (by omega) hS.hi; simpa using this
  have hm2 : 16 ≤ 2 ^ b := by have := Nat.pow_le_pow_right (n := 2) (by omega) hS.lo; simpa using this
  refine Add_core g b h (2 ^ b) (h % 2 ^ b) (rk h b) (rk26 h b) (addB b r h) (fun w' => Sk w' g b (addR b r h) ∧ w.grownBy w' (some g)) w hm2 hm hk (rk26_bd h b).1 (rk26_bd h b).2 hS.cell0
    (shl1 b hS.bits_cases) (and_low h b hh hS.hi) (by unfold rk26; split <;> omega) (fun w' h' => h'.1.cell0) ?_ ?_
  · intro w' he
    exact rank_any h b w' hh hS.bits_cases (fun j hj => by rw [← hT j hj]; simp only [World.cell?, he])
  · intro w' he hg
    have hS' : Sk w' g b r := Sk.grown hg hS (by simp)
    refine (raise_any g b r (h % 2 ^ b) (rk26 h b) w' hS' hk (by have := rk26_bd h b; omega) (rk26_bd h b).2).mono ?_
    rintro e w1 ⟨rfl, h1, h2⟩
    exact ⟨rfl, h1, only_trans ⟨hg.os, hg.tape, hg.output, hg.size, fun i hi _ => hg.block i hi (by simp)⟩ h2⟩
end Go.Proofs.YtapiehddcdnadaaDoor

/- The sketch in memory, and what its small functions do (Bits, used, raise): each returns what its plain Lean twin says, and leaves what it says. A sketch of 4 to 10 bits. Plain words for the sketch: the rank of a sum, what an addition does to the registers. Numbers and lists alone. TrailingZeros64, Rank, Add, New: each returns what its plain Lean twin says. The table of math/bits is where its initialiser laid it. New, alpha, Registers, Clear: what each returns and leaves. Merge: of other bits it is refused; with itself it stays; else each register is the greater one of both. Estimate: it returns the plain number; what lay in memory stays. A sketch of 4 to 10 bits. -/
import Derived.Test.YtapiehddcdnadaaGreatDoorProg
import Derived.Test.YtapiehddcdnadaaGreatDoorM1
import Derived.Lib.TrailingZeros
import Derived.Below
import Derived.Shelf.Spec.TrailingZeros
import Derived.Laws.BytesArg
import Derived.Lib.SliceRun
namespace Go.Proofs.YtapiehddcdnadaaGreatDoor
open Go.RowKit
set_option linter.unusedVariables false
set_option linter.unusedSimpArgs false

/-- A sketch's cells. -/
def skCells (b : Nat) (r : List Int) : Array Value := (Value.int .i64 b :: (r.map (Value.int .u8) ++ List.replicate (1024 - r.length) (Value.int .u8 0))).toArray

/-- Block g is a sketch of b bits whose registers are r. -/
structure Sk (w : World) (g : Nat) (b : Nat) (r : List Int) : Prop where
  blk : Blk w g 120 (skCells b r)
  lo : 4 ≤ b
  hi : b ≤ 10
  len : r.length = 2 ^ b
  wf : ∀ x ∈ r, 0 ≤ x ∧ x ≤ 26

theorem Sk.bits_cases {w : World} {g b : Nat} {r : List Int} (h : Sk w g b r) : b = 4 ∨ b = 5 ∨ b = 6 ∨ b = 7 ∨ b = 8 ∨ b = 9 ∨ b = 10 := by
  have := h.lo; have := h.hi; omega

theorem Sk.cell0 {w : World} {g b : Nat} {r : List Int} (h : Sk w g b r) : w.cell? ⟨g, 0, none⟩ = some (.int .i64 b) := h.blk.cellAt 0 (by simp [skCells])

theorem Bits_any (g b : Nat) (r : List Int) (w : World) (h : Sk w g b r) :
    Calls Tryz.prog 39 #[.pointer (some ⟨g, 0, none⟩)] w fun e w' => e = .returned (.int .i64 b) ∧ w = w' := by
  have c0 := h.cell0
  go_enter Tryz.func39, Tryz.ntmps39
  go_wp2
  go_ret
  exact ⟨rfl, rfl⟩

theorem used_any (g b : Nat) (r : List Int) (w : World) (h : Sk w g b r) :
    Calls Tryz.prog 68 #[.pointer (some ⟨g, 0, none⟩)] w fun e w' => e = .returned (.slice (some ⟨g, 1, none⟩) (2 ^ b) (2 ^ b)) ∧ w = w' := by
  have c0 := h.cell0
  rcases h.bits_cases with rfl | rfl | rfl | rfl | rfl | rfl | rfl
  all_goals
    go_enter Tryz.func68, Tryz.ntmps68
    go_wp2
    go_ret
    exact ⟨rfl, rfl⟩

theorem used_m (g b m : Nat) (r : List Int) (w : World) (h : Sk w g b r) (hm : 2 ^ b = m) :
    Calls Tryz.prog 68 #[.pointer (some ⟨g, 0, none⟩)] w fun e w' => e = .returned (.slice (some ⟨g, 1, none⟩) m m) ∧ w = w' := by
  subst hm
  exact used_any g b r w h

theorem Sk.cell {w : World} {g b : Nat} {r : List Int} (h : Sk w g b r) (k : Nat) (hk : k < 2 ^ b) : w.cell? ⟨g, 1 + k, none⟩ = some (.int .u8 (r.getD k 0)) := by
  refine h.blk.cellAt (1 + k) ?_
  have hl := h.len
  have hk' : k < r.length := by omega
  simp only [skCells, List.getElem?_toArray]
  rw [Nat.add_comm, List.getElem?_cons_succ, List.getElem?_append_left (by simpa using hk')]
  simp [List.getD_eq_getElem?_getD, List.getElem?_eq_getElem hk']

theorem Sk.frozen {w : World} {g b : Nat} {r : List Int} (h : Sk w g b r) (i : Nat) : w.frozen? ⟨g, i, none⟩ = false := h.blk.frozen i

theorem skCells_set (b : Nat) (r : List Int) (k : Nat) (v : Int) (hk : k < r.length) : (skCells b r).setIfInBounds (1 + k) (.int .u8 v) = skCells b (r.set k v) := by
  simp only [skCells, List.setIfInBounds_toArray, List.length_set]
  congr 1
  rw [Nat.add_comm, List.set_cons_succ, List.set_append_left _ _ (by simpa using hk)]
  simp

theorem Sk.put {w : World} {g b : Nat} {r : List Int} (h : Sk w g b r) (k : Nat) (v : Int) (hk : k < 2 ^ b) (h0 : 0 ≤ v) (h1 : v ≤ 26) : Sk (w.setCell ⟨g, 1 + k, none⟩ (.int .u8 v)) g b (r.set k v) where
  blk := by
    have h2 := h.blk.put (1 + k) (.int .u8 v)
    rw [skCells_set b r k v (by rw [h.len]; exact hk)] at h2
    exact h2
  lo := h.lo
  hi := h.hi
  len := by rw [List.length_set]; exact h.len
  wf := by
    intro x hx
    rcases List.mem_or_eq_of_mem_set hx with h2 | h2
    · exact h.wf x h2
    · subst h2; exact ⟨h0, h1⟩

theorem Sk.get {w : World} {g b : Nat} {r : List Int} (h : Sk w g b r) (k : Nat) : 0 ≤ r.getD k 0 ∧ r.getD k 0 ≤ 26 := by
  rw [List.getD_eq_getElem?_getD]
  rcases Nat.lt_or_ge k r.length with hk | hk
  · rw [List.getElem?_eq_getElem hk]
    exact h.wf _ (List.getElem_mem hk)
  · rw [List.getElem?_eq_none hk]
    simp

theorem Sk.lt {w : World} {g b : Nat} {r : List Int} (h : Sk w g b r) : g < w.heap.size := h.blk.lt
theorem Sk.step {w w' : World} {g b : Nat} {r : List Int} (hb : Below w.heap.size w w') (h : Sk w g b r) : Sk w' g b r := ⟨Blk.step hb h.blk, h.lo, h.hi, h.len, h.wf⟩
theorem Sk.alloc {w : World} {g b : Nat} {r : List Int} (h : Sk w g b r) (o : Obj) : Sk (w.alloc o) g b r := ⟨h.blk.alloc o, h.lo, h.hi, h.len, h.wf⟩
theorem Sk.drewN {w : World} {g b : Nat} {r : List Int} (h : Sk w g b r) (n : Nat) : Sk (w.drewN n) g b r := ⟨h.blk, h.lo, h.hi, h.len, h.wf⟩
theorem Sk.grown {w w' : World} {g b : Nat} {r : List Int} {row : Option Nat} (hb : w.grownBy w' row) (h : Sk w g b r) (hg : some g ≠ row) : Sk w' g b r := ⟨Blk.grown hb h.blk hg, h.lo, h.hi, h.len, h.wf⟩

theorem only_set (w : World) (g i : Nat) (u : Value) : w.grownBy (w.setCell ⟨g, i, none⟩ u) (some g) := only_setCell (only_refl w (some g)) (.inl rfl) u

theorem raise_any (g b : Nat) (r : List Int) (k : Nat) (n : Int) (w : World) (h : Sk w g b r) (hk : k < 2 ^ b) (h0 : 0 ≤ n) (h1 : n ≤ 26) :
    Calls Tryz.prog 71 #[.pointer (some ⟨g, 0, none⟩), .int .i64 k, .int .u8 n] w fun e w' => e = .returned (.bool (decide (r.getD k 0 < n))) ∧ Sk w' g b (r.set k (max (r.getD k 0) n)) ∧ w.grownBy w' (some g) := by
  have hc := h.cell k hk
  have hv := h.get k
  have hf := h.frozen (1 + k)
  have hm : 2 ^ b ≤ 1024 := by have := Nat.pow_le_pow_right (n := 2) (by omega) h.hi; simpa using this
  have hM := h.put k (max (r.getD k 0) n) hk (by omega) (by omega)
  generalize r.set k (max (r.getD k 0) n) = r' at *
  generalize r.getD k 0 = v at *
  have Hk := hk
  have hk1 : (k : Int) < ((2 ^ b : Nat) : Int) := by omega
  go_enter Tryz.func71, Tryz.ntmps71
  go_wp2_with fail
  refine (used_any g b r _ h).mono ?_
  rintro e w1 ⟨rfl, rfl⟩
  clear h
  generalize 2 ^ b = m at *
  go_wp2_with fail
  all_goals go_ret
  · have e : max v n = n := by omega
    rw [e] at hM
    exact ⟨ret_bool (by simp), hM, only_set _ _ _ _⟩
  · have e : max v n = v := by omega
    rw [e] at hM
    exact ⟨ret_bool (by simp), hM, only_set _ _ _ _⟩
end Go.Proofs.YtapiehddcdnadaaGreatDoor
namespace Go.Proofs.YtapiehddcdnadaaGreatDoor

/-- Where the first bit of h from b on stands. -/
def rk (h b : Nat) : Nat := min (Lib.ctz 64 (h / 2 ^ b)) (64 - b) + 1
/-- A rank as a register takes it. -/
def rk26 (h b : Nat) : Int := ((min (rk h b) 26 : Nat) : Int)
theorem rk26_bd (h b : Nat) : 1 ≤ rk26 h b ∧ rk26 h b ≤ 26 := by unfold rk26 rk; omega
/-- The registers behind an addition. -/
def addR (b : Nat) (r : List Int) (h : Nat) : List Int := r.set (h % 2 ^ b) (max (r.getD (h % 2 ^ b) 0) (rk26 h b))
/-- Did the addition turn its register? -/
def addB (b : Nat) (r : List Int) (h : Nat) : Bool := decide (r.getD (h % 2 ^ b) 0 < rk26 h b)
theorem addR_len (b : Nat) (r : List Int) (h : Nat) : (addR b r h).length = r.length := by simp [addR]
end Go.Proofs.YtapiehddcdnadaaGreatDoor
namespace Go.Proofs.YtapiehddcdnadaaGreatDoor
open Go.RowKit
set_option linter.unusedVariables false
set_option linter.unusedSimpArgs false

/-- The table of math/bits, as its initialiser lays it. -/
def Tab (w : World) : Prop := TabAt 0 Lib.deBruijn64tab w
theorem Tab.lt {w : World} (h : Tab w) : 0 < w.heap.size := by
  have h0 := h 0 (by decide)
  rcases Nat.lt_or_ge 0 w.heap.size with hlt | hge
  · exact hlt
  · unfold World.cell? at h0
    rw [Array.getElem?_eq_none hge] at h0
    cases h0
theorem Tab.step {w w' : World} (hb : Below w.heap.size w w') (h : Tab w) : Tab w' := fun j hj => (hb.cell (p := ⟨0, j, none⟩) h.lt).trans (h j hj)

set_option maxHeartbeats 1000000 in
theorem tz_core (x k idx : Nat) (w : World) (hx0 : ((x : Int) == 0) = false)
    (key : IntKind.u64.wrap (bits BinOp.and IntKind.u64 (x : Int) (IntKind.u64.wrap (-(x : Int))) * 285870213051353865) / 288230376151711744 = (idx : Int))
    (hi : idx < 64) (hk : k < 64) (hcell : w.cell? ⟨0, idx, none⟩ = some (.int .u8 k)) :
    Calls Tryz.prog 93 #[.int .u64 x] w fun e w' => e = .returned (.int .i64 k) ∧ w = w' := by
  go_enter Tryz.func93, Tryz.ntmps93
  go_wp2_with (simp only [key])
  go_ret
  exact ⟨rfl, rfl⟩

theorem tz_zero (w : World) : Calls Tryz.prog 93 #[.int .u64 0] w fun e w' => e = .returned (.int .i64 64) ∧ w = w' := by
  go_enter Tryz.func93, Tryz.ntmps93
  go_wp2
  go_ret
  exact ⟨rfl, rfl⟩

theorem tz_any (x : Nat) (hx : x < 18446744073709551616) (w : World) (hT : Tab w) :
    Calls Tryz.prog 93 #[.int .u64 x] w fun e w' => e = .returned (.int .i64 (Lib.ctz 64 x)) ∧ w = w' := by
  by_cases hx0 : x = 0
  · subst hx0
    exact tz_zero w
  · obtain ⟨hlow, hk⟩ := Lib.lowest_bit 64 x hx0 hx
    obtain ⟨hi, htab⟩ := Lib.deBruijn64_at _ hk
    have hcell := hT _ hi
    rw [htab] at hcell
    exact tz_core x _ _ w (by simp; omega) (tz64_key x _ hx hx0 hlow) hi hk hcell

theorem ctz_le (x : Nat) : Lib.ctz 64 x ≤ 64 := by
  have : ∀ f x, Lib.ctzFrom f x ≤ f := by
    intro f
    induction f with
    | zero => intro x; simp [Lib.ctzFrom]
    | succ f ih =>
      intro x
      unfold Lib.ctzFrom
      split
      · omega
      · have := ih (x / 2); omega
  unfold Lib.ctz
  split
  · omega
  · exact this 64 x

/-- The shifts by a sketch's bits, as the walk spells them. -/
theorem shl1 (b : Nat) (h : b = 4 ∨ b = 5 ∨ b = 6 ∨ b = 7 ∨ b = 8 ∨ b = 9 ∨ b = 10) : IntKind.u64.wrap ((2 : Int) ^ min b 64) = ((2 ^ b : Nat) : Int) := by
  rcases h with rfl | rfl | rfl | rfl | rfl | rfl | rfl <;> decide +kernel
theorem shl1i (b : Nat) (h : b = 4 ∨ b = 5 ∨ b = 6 ∨ b = 7 ∨ b = 8 ∨ b = 9 ∨ b = 10) : IntKind.i64.wrap ((2 : Int) ^ min b 64) = ((2 ^ b : Nat) : Int) := by
  rcases h with rfl | rfl | rfl | rfl | rfl | rfl | rfl <;> decide +kernel

theorem rank_any (h b : Nat) (w : World) (hh : h < 18446744073709551616) (hb : b = 4 ∨ b = 5 ∨ b = 6 ∨ b = 7 ∨ b = 8 ∨ b = 9 ∨ b = 10) (hT : Tab w) :
    Calls Tryz.prog 77 #[.int .u64 h, .int .i64 b] w fun e w' => e = .returned (.int .i64 (rk h b)) ∧ w = w' := by
  have hx1 : h / 2 ^ b < 18446744073709551616 := Nat.lt_of_le_of_lt (Nat.div_le_self h _) hh
  have hc := ctz_le (h / 2 ^ b)
  have hr : rk h b = min (Lib.ctz 64 (h / 2 ^ b)) (64 - b) + 1 := rfl
  generalize rk h b = q at *
  obtain ⟨x, hx⟩ : ∃ x, h / 2 ^ b = x := ⟨_, rfl⟩
  rw [hx] at hx1 hc hr
  have htz := tz_any x hx1 w hT
  generalize Lib.ctz 64 x = z at *
  have HR := Lib.hid hr
  have HX := Lib.hid hx
  clear hr hx
  rcases hb with rfl | rfl | rfl | rfl | rfl | rfl | rfl
  all_goals
    go_enter Tryz.func77, Tryz.ntmps77
    go_wp2_with fail
    have hx := HX.out
    first
      | rw [show (h : Int) / 16 = x from by omega]
      | rw [show (h : Int) / 32 = x from by omega]
      | rw [show (h : Int) / 64 = x from by omega]
      | rw [show (h : Int) / 128 = x from by omega]
      | rw [show (h : Int) / 256 = x from by omega]
      | rw [show (h : Int) / 512 = x from by omega]
      | rw [show (h : Int) / 1024 = x from by omega]
    clear hx
    refine htz.mono ?_
    rintro e w1 ⟨rfl, rfl⟩
    go_wp2_with fail
    all_goals
      go_ret
      exact ⟨ret_int (by have := HR.out; omega), rfl⟩

theorem and_low (h b : Nat) (hh : h < 18446744073709551616) (hb : b ≤ 10) : bits .and .u64 (h : Int) (((2 ^ b : Nat) : Int) - 1) = ((h % 2 ^ b : Nat) : Int) := by
  have hp : 0 < 2 ^ b := Nat.two_pow_pos b
  have hm : 2 ^ b ≤ 1024 := by have := Nat.pow_le_pow_right (n := 2) (by omega) hb; simpa using this
  have e : (((2 ^ b : Nat) : Int) - 1) = ((2 ^ b - 1 : Nat) : Int) := by omega
  rw [e, bits_and_u64_nat h _ hh (by omega), Nat.and_two_pow_sub_one_eq_mod]

theorem Add_core (g b : Nat) (h m k : Nat) (q n : Int) (o : Bool) (R : World → Prop) (w : World) (hm0 : 16 ≤ m) (hm1 : m ≤ 1024) (hk : k < m) (hn0 : 1 ≤ n) (hn1 : n ≤ 26)
    (c0 : w.cell? ⟨g, 0, none⟩ = some (.int .i64 b))
    (hs : IntKind.u64.wrap ((2 : Int) ^ min b 64) = (m : Int))
    (hand : bits .and .u64 (h : Int) ((m : Int) - 1) = (k : Int))
    (hmin : (if (26 : Int) < q then 26 else q) = n)
    (hRc : Hid (∀ w', R w' → w'.cell? ⟨g, 0, none⟩ = some (.int .i64 b)))
    (hrk : Hid (∀ w', w'.heap = w.heap → Calls Tryz.prog 77 #[.int .u64 h, .int .i64 b] w' fun e w'' => e = .returned (.int .i64 q) ∧ w' = w''))
    (hrs : Hid (∀ w', w'.heap = w.heap → w.grownBy w' none → Calls Tryz.prog 71 #[.pointer (some ⟨g, 0, none⟩), .int .i64 k, .int .u8 n] w' fun e w'' => e = .returned (.bool o) ∧ R w'')) :
    Calls Tryz.prog 57 #[.pointer (some ⟨g, 0, none⟩), .int .u64 h] w fun e w' => e = .returned (.bool o) ∧ R w' := by
  have e1 : IntKind.u64.wrap ((m : Int) - 1) = (m : Int) - 1 := IntWalk.u64_in _ (by omega)
  have e2 : IntKind.i64.wrap (k : Int) = k := IntWalk.i64_in _ (by omega)
  have e3 : IntKind.u8.wrap n = n := IntWalk.u8_in _ (by omega)
  go_enter Tryz.func57, Tryz.ntmps57
  go_wp2_with fail
  go_region_held3 (fun w' => w'.cell? ⟨g, 0, none⟩ = some (.int .i64 b)) (first | exact c0 | exact hRc.out _ hR)
    (first | (go_at_call 77; ((with_reducible refine (hrk.out _ ?_).mono ?_); exact rfl; rintro e w1 ⟨rfl, rfl⟩)) | (go_at_call 71; ((with_reducible refine (hrs.out _ ?_ ?_).mono ?_); exact rfl; exact (only_drew (only_refl _ _)); rintro e w1 ⟨rfl, hR⟩)))
  go_wp2_with fail
  go_ret
  exact ⟨rfl, hR⟩

theorem Add_any (g b : Nat) (r : List Int) (h : Nat) (w : World) (hh : h < 18446744073709551616) (hS : Sk w g b r) (hT : Tab w) :
    Calls Tryz.prog 57 #[.pointer (some ⟨g, 0, none⟩), .int .u64 h] w fun e w' => e = .returned (.bool (addB b r h)) ∧ Sk w' g b (addR b r h) ∧ w.grownBy w' (some g) := by
  have hk : h % 2 ^ b < 2 ^ b := Nat.mod_lt _ (Nat.two_pow_pos b)
  have hm : 2 ^ b ≤ 1024 := by have := Nat.pow_le_pow_right (n := 2) (by omega) hS.hi; simpa using this
  have hm2 : 16 ≤ 2 ^ b := by have := Nat.pow_le_pow_right (n := 2) (by omega) hS.lo; simpa using this
  refine Add_core g b h (2 ^ b) (h % 2 ^ b) (rk h b) (rk26 h b) (addB b r h) (fun w' => Sk w' g b (addR b r h) ∧ w.grownBy w' (some g)) w hm2 hm hk (rk26_bd h b).1 (rk26_bd h b).2 hS.cell0
    (shl1 b hS.bits_cases) (and_low h b hh hS.hi) (by unfold rk26; split <;> omega) (fun w' h' => h'.1.cell0) ?_ ?_
  · intro w' he
    exact rank_any h b w' hh hS.bits_cases (fun j hj => by rw [← hT j hj]; simp only [World.cell?, he])
  · intro w' he hg
    have hS' : Sk w' g b r := Sk.grown hg hS (by simp)
    refine (raise_any g b r (h % 2 ^ b) (rk26 h b) w' hS' hk (by have := rk26_bd h b; omega) (rk26_bd h b).2).mono ?_
    rintro e w1 ⟨rfl, h1, h2⟩
    exact ⟨rfl, h1, only_trans ⟨hg.os, hg.tape, hg.output, hg.size, fun i hi _ => hg.block i hi (by simp)⟩ h2⟩
end Go.Proofs.YtapiehddcdnadaaGreatDoor
namespace Go.Proofs.YtapiehddcdnadaaGreatDoor
open Go.RowKit
set_option linter.unusedVariables false
set_option linter.unusedSimpArgs false

theorem New_no (b : Int) (w : World) (h : b < 4 ∨ 10 < b) :
    Calls Tryz.prog 30 #[.int .i64 b] w fun e w' => e = .returned (.tuple #[.pointer none, .int .i64 1]) ∧ Below w.heap.size w w' := by
  rcases h with h | h
  · go_enter Tryz.func30, Tryz.ntmps30
    go_wp2
    go_ret2
    exact ⟨rfl, Below.refl _ _⟩
  · have h4 : ¬ b < 4 := by omega
    go_enter Tryz.func30, Tryz.ntmps30
    go_wp2
    go_ret2
    exact ⟨rfl, Below.refl _ _⟩

theorem zero_sk (w : World) : (zeroValue 120).run Tryz.prog w = .ok (.agg (skCells 0 [])) w := by kernel_rfl

theorem New_core (b : Nat) (Z C : Array Value) (w : World) (h4 : ¬ (b : Int) < 4) (h10 : ¬ (10 : Int) < b) (hz : ∀ w, (zeroValue 120).run Tryz.prog w = .ok (.agg Z) w)
    (hne : (Z = #[]) = False) (hC : Z.setIfInBounds 0 (.int .i64 b) = C) :
    Calls Tryz.prog 30 #[.int .i64 b] w fun e w' => e = .returned (.tuple #[.pointer (some ⟨w.heap.size, 0, none⟩), .int .i64 0]) ∧ w' = w.alloc (.cells C 120) := by
  go_enter Tryz.func30, Tryz.ntmps30
  go_wp2_with fail
  go_ret2
  exact ⟨rfl, rfl⟩

theorem skCells_zero (b c : Nat) (h : c ≤ 1024) : (skCells 0 []).setIfInBounds 0 (.int .i64 b) = skCells b (List.replicate c 0) := by
  simp only [skCells, List.setIfInBounds_toArray, List.map_nil, List.nil_append, List.length_nil, Nat.sub_zero, List.set_cons_zero, List.map_replicate, List.length_replicate]
  congr 2
  rw [List.replicate_append_replicate]
  congr 1
  omega

theorem New_yes (b : Nat) (w : World) (h : b = 4 ∨ b = 5 ∨ b = 6 ∨ b = 7 ∨ b = 8 ∨ b = 9 ∨ b = 10) :
    Calls Tryz.prog 30 #[.int .i64 b] w fun e w' => e = .returned (.tuple #[.pointer (some ⟨w.heap.size, 0, none⟩), .int .i64 0]) ∧ Sk w' w.heap.size b (List.replicate (2 ^ b) 0) ∧ Below w.heap.size w w' := by
  have hm : 2 ^ b ≤ 1024 := by have := Nat.pow_le_pow_right (n := 2) (by omega) (show b ≤ 10 by omega); simpa using this
  refine (New_core b (skCells 0 []) (skCells b (List.replicate (2 ^ b) 0)) w (by omega) (by omega) zero_sk (eq_false (fun h => by have h2 := congrArg Array.size h; simp only [skCells, List.size_toArray, List.length_cons, List.size_toArray, List.length_nil] at h2; omega)) (skCells_zero b _ hm)).mono ?_
  rintro e w1 ⟨rfl, rfl⟩
  exact ⟨rfl, ⟨Blk.new _ _ _, by omega, by omega, by simp, fun x hx => by rw [List.eq_of_mem_replicate hx]; omega⟩, balloc (Below.refl _ _) _⟩

/-- The sketch's constant. -/
def alphaN (b : Nat) : Nat := if b = 4 then 6730 else if b = 5 then 6970 else if b = 6 then 7090 else 72130000 * 2 ^ b / (10000 * 2 ^ b + 10790)

theorem alpha_any (g b : Nat) (w : World) (c0 : w.cell? ⟨g, 0, none⟩ = some (.int .i64 b)) (h : b = 4 ∨ b = 5 ∨ b = 6 ∨ b = 7 ∨ b = 8 ∨ b = 9 ∨ b = 10) :
    Calls Tryz.prog 69 #[.pointer (some ⟨g, 0, none⟩)] w fun e w' => e = .returned (.int .u64 (alphaN b)) ∧ Below w.heap.size w w' := by
  have hg : g < w.heap.size := Blk.lt_cell c0
  rcases h with rfl | rfl | rfl | rfl | rfl | rfl | rfl
  all_goals
    go_enter Tryz.func69, Tryz.ntmps69
    go_wp2_with fail
    go_ret
    exact ⟨ret_int (by decide +kernel), balloc (Below.refl _ _) _⟩

theorem Registers_any (g b : Nat) (r : List Int) (w : World) (h : Sk w g b r) :
    Calls Tryz.prog 48 #[.pointer (some ⟨g, 0, none⟩)] w fun e w' => e = .returned (.string (strOfNums r)) ∧ w = w' := by
  have hcv := run_convert_bytes_arg (P := Tryz.prog) w 68 5 Tryz.underlying68 Tryz.underlying5 g 1 (2 ^ b) (2 ^ b) r h.len h.cell 9 Tryz.underlying9
  go_enter Tryz.func48, Tryz.ntmps48
  go_wp2_with fail
  refine (used_any g b r _ h).mono ?_
  rintro e w1 ⟨rfl, rfl⟩
  clear h
  generalize 2 ^ b = m at *
  go_wp2_with fail
  go_ret
  exact ⟨rfl, rfl⟩

theorem Sk.zeros {g b : Nat} : ∀ (n k : Nat) (r : List Int) (w : World), k + n ≤ 2 ^ b → Sk w g b r →
    Sk (w.setCells g (1 + k) (List.replicate n (.int .u8 0))) g b (r.take k ++ List.replicate n 0 ++ r.drop (k + n)) ∧ w.grownBy (w.setCells g (1 + k) (List.replicate n (.int .u8 0))) (some g)
  | 0, k, r, w, hk, h => by
    simp only [List.replicate_zero, World.setCells, List.append_nil, Nat.add_zero, List.take_append_drop]
    exact ⟨h, only_refl _ _⟩
  | n + 1, k, r, w, hk, h => by
    have h1 := h.put k 0 (by omega) (Int.le_refl _) (by omega)
    obtain ⟨h2, h3⟩ := Sk.zeros n (k + 1) (r.set k 0) _ (by omega) h1
    simp only [List.replicate_succ, World.setCells]
    have hkl : k < r.length := by rw [h.len]; omega
    have e : r.take k ++ 0 :: List.replicate n 0 ++ r.drop (k + (n + 1)) = (r.set k 0).take (k + 1) ++ List.replicate n 0 ++ (r.set k 0).drop (k + 1 + n) := by
      rw [List.take_set, List.drop_set, if_pos (by omega), List.take_succ_eq_append_getElem hkl, List.set_append_right _ _ (by rw [List.length_take]; omega)]
      have e2 : k - (r.take k).length = 0 := by rw [List.length_take]; omega
      rw [e2]
      simp [Nat.add_assoc, Nat.add_comm 1 n]
    rw [e]
    exact ⟨h2, only_trans (only_set _ _ _ _) h3⟩

theorem Clear_any (g b : Nat) (r : List Int) (w : World) (h : Sk w g b r) :
    Calls Tryz.prog 37 #[.pointer (some ⟨g, 0, none⟩)] w fun e w' => e = .returned (.tuple #[]) ∧ Sk w' g b (List.replicate (2 ^ b) 0) ∧ w.grownBy w' (some g) := by
  have hcl : ∀ ty, (Builtin.clear_ #[68] ty #[.slice (some ⟨g, 1, none⟩) (2 ^ b) (2 ^ b)]).run Tryz.prog w = .ok (.tuple #[]) (w.setCells g 1 (List.replicate (2 ^ b) (.int .u8 0))) :=
    fun ty => Lib.run_clear_slice w 68 5 ty (.int .u8 0) Tryz.underlying68 Tryz.zeroValue5 rfl rfl g 1 (2 ^ b) (2 ^ b) (Nat.two_pow_pos b) (fun j hj => by rw [h.cell j hj]; rfl) (fun j hj => h.frozen _)
  obtain ⟨hz, hg⟩ := Sk.zeros (2 ^ b) 0 r w (by omega) h
  rw [Nat.add_zero] at hz hg
  have e : r.take 0 ++ List.replicate (2 ^ b) 0 ++ r.drop (0 + 2 ^ b) = List.replicate (2 ^ b) 0 := by
    rw [Nat.zero_add, ← h.len]; simp
  rw [e] at hz
  have HZ := Lib.hid hz
  have HG := Lib.hid hg
  clear hz hg e
  go_enter Tryz.func37, Tryz.ntmps37
  go_wp2_with fail
  refine (used_any g b r _ h).mono ?_
  rintro e w1 ⟨rfl, rfl⟩
  clear h
  generalize hm : 2 ^ b = m at *
  have HM := Lib.hid hm
  clear hm
  generalize w.setCells g 1 (List.replicate m (.int .u8 0)) = w2 at *
  go_wp2_with fail
  go_end0
  exact ⟨rfl, by rw [HM.out]; exact HZ.out, HG.out⟩

end Go.Proofs.YtapiehddcdnadaaGreatDoor
namespace Go.Proofs.YtapiehddcdnadaaGreatDoor
open Go.RowKit
set_option linter.unusedVariables false
set_option linter.unusedSimpArgs false

theorem Merge_no (g g' b b' : Nat) (r r' : List Int) (w : World) (h : Sk w g b r) (h' : Sk w g' b' r') (hne : b ≠ b') :
    Calls Tryz.prog 55 #[.pointer (some ⟨g, 0, none⟩), .pointer (some ⟨g', 0, none⟩)] w fun e w' => e = .returned (.int .i64 1) ∧ Below w.heap.size w w' := by
  have c0 := h.cell0
  have c1 := h'.cell0
  have hd : ((b' : Int) == (b : Int)) = false := by simp; omega
  have hd2 : ((b' : Int) != (b : Int)) = true := by simp; omega
  go_enter Tryz.func55, Tryz.ntmps55
  go_wp2_with fail
  go_quiet (fail)
  go_wp2_with fail
  go_ret
  exact ⟨rfl, bdrewN (Below.refl _ _) _⟩

/-- The first k registers merged. -/
def mergeTo (r r' : List Int) (k : Nat) : List Int := List.zipWith max (r.take k) (r'.take k) ++ r.drop k

theorem mergeTo_zero (r r' : List Int) : mergeTo r r' 0 = r := by simp [mergeTo]
theorem mergeTo_all (r r' : List Int) (k : Nat) (h : r.length = k) (h' : r'.length = k) : mergeTo r r' k = List.zipWith max r r' := by
  subst h; simp [mergeTo, List.take_of_length_le (Nat.le_of_eq h')]
theorem mergeTo_get (r r' : List Int) (k : Nat) (hk : k < r.length) (hk' : k < r'.length) : (mergeTo r r' k).getD k 0 = r.getD k 0 := by
  simp only [mergeTo, List.getD_eq_getElem?_getD]
  rw [List.getElem?_append_right (by simp; omega)]
  simp only [List.length_zipWith, List.length_take, List.getElem?_drop]
  congr 2
  omega
theorem mergeTo_succ (r r' : List Int) (k : Nat) (hk : k < r.length) (hk' : k < r'.length) : (mergeTo r r' k).set k (max (r.getD k 0) (r'.getD k 0)) = mergeTo r r' (k + 1) := by
  simp only [mergeTo]
  rw [List.set_append_right _ _ (by simp; omega)]
  have e : k - (List.zipWith max (r.take k) (r'.take k)).length = 0 := by simp; omega
  rw [e, List.drop_eq_getElem_cons hk, List.set_cons_zero, List.take_succ_eq_append_getElem hk, List.take_succ_eq_append_getElem hk', List.zipWith_append (by simp; omega)]
  simp [List.getD_eq_getElem?_getD, List.getElem?_eq_getElem hk, List.getElem?_eq_getElem hk']

set_option maxRecDepth 100000 in
set_option maxHeartbeats 1000000 in
theorem Merge_yes (g g' b : Nat) (r r' : List Int) (w : World) (h : Sk w g b r) (h' : Sk w g' b r') (hne : g ≠ g') :
    Calls Tryz.prog 55 #[.pointer (some ⟨g, 0, none⟩), .pointer (some ⟨g', 0, none⟩)] w fun e w' => e = .returned (.int .i64 0) ∧ Sk w' g b (List.zipWith max r r') ∧ w.grownBy w' (some g) := by
  have c0 := h.cell0
  have c1 := h'.cell0
  have hd : ((b : Int) == (b : Int)) = true := by simp
  have hd2 : ((b : Int) != (b : Int)) = false := by simp
  have hm : 2 ^ b ≤ 1024 := by have := Nat.pow_le_pow_right (n := 2) (by omega) h.hi; simpa using this
  go_enter Tryz.func55, Tryz.ntmps55
  go_wp2_with fail
  go_quiet (fail)
  go_wp2_with fail
  obtain ⟨m, hm0⟩ : ∃ m, 2 ^ b = m := ⟨_, rfl⟩
  rw [hm0] at hm
  refine (used_m g' b m r' _ (h'.drewN _) hm0).mono ?_
  have HM := Lib.hid hm0
  clear hm0
  rintro e w1 ⟨rfl, rfl⟩
  go_wp2_with fail
  have hG : w.grownBy (w.drewN nq) (some g) := only_drewN (only_refl _ _) _
  have hS : Sk (w.drewN nq) g b r := h.drewN _
  generalize w.drewN nq = wq at *
  go_loopw [19] (fun i wr => ∃ k : Nat, k ≤ m ∧ i = .int .i64 k ∧ Sk wr g b (mergeTo r r' k) ∧ w.grownBy wr (some g)) (fun i _ => m - (intOf i).toNat)
  case atStart => exact ⟨0, Nat.zero_le _, rfl, by rw [mergeTo_zero]; exact hS, hG⟩
  case round =>
    obtain ⟨k, hk, rfl, hSk, hGk⟩ := hrel
    by_cases hkm : k < m
    · have hT := Sk.grown hGk h' (by simp; omega)
      have hc := hT.cell k (by rw [HM.out]; exact hkm)
      have hv := h'.get k
      have hrl : k < r.length := by rw [h.len, HM.out]; exact hkm
      have hrl' : k < r'.length := by rw [h'.len, HM.out]; exact hkm
      have hra := raise_any g b (mergeTo r r' k) k (r'.getD k 0) wr hSk (by rw [HM.out]; exact hkm) hv.1 hv.2
      rw [mergeTo_get r r' k hrl hrl', mergeTo_succ r r' k hrl hrl'] at hra
      have HRA := Lib.hid hra
      clear hra
      generalize r'.getD k 0 = v at *
      have hk1 : (k : Int) < m := by omega
      go_wp2_with fail
      refine (HRA.out).mono ?_
      rintro e w2 ⟨rfl, hS2, hG2⟩
      go_wp2_with fail
      go_roundw
      case rel => exact ⟨k + 1, by omega, by go_num, hS2, only_trans hGk hG2⟩
      case measure => simp [intOf]; omega
    · go_wp2_with fail
      go_ret
      obtain rfl : k = m := by omega
      rw [mergeTo_all r r' k (by rw [h.len, HM.out]) (by rw [h'.len, HM.out])] at hSk
      exact ⟨rfl, hSk, hGk⟩

theorem set_self (r : List Int) (k : Nat) (hk : k < r.length) : r.set k (max (r.getD k 0) (r.getD k 0)) = r := by
  have e : max (r.getD k 0) (r.getD k 0) = r[k] := by simp [List.getD_eq_getElem?_getD, List.getElem?_eq_getElem hk]
  rw [e]
  exact List.set_getElem_self hk

set_option maxRecDepth 100000 in
set_option maxHeartbeats 1000000 in
theorem Merge_self (g b : Nat) (r : List Int) (w : World) (h : Sk w g b r) :
    Calls Tryz.prog 55 #[.pointer (some ⟨g, 0, none⟩), .pointer (some ⟨g, 0, none⟩)] w fun e w' => e = .returned (.int .i64 0) ∧ Sk w' g b r ∧ w.grownBy w' (some g) := by
  have c0 := h.cell0
  have hd : ((b : Int) == (b : Int)) = true := by simp
  have hd2 : ((b : Int) != (b : Int)) = false := by simp
  have hm : 2 ^ b ≤ 1024 := by have := Nat.pow_le_pow_right (n := 2) (by omega) h.hi; simpa using this
  go_enter Tryz.func55, Tryz.ntmps55
  go_wp2_with fail
  go_quiet (fail)
  go_wp2_with fail
  obtain ⟨m, hm0⟩ : ∃ m, 2 ^ b = m := ⟨_, rfl⟩
  rw [hm0] at hm
  refine (used_m g b m r _ (h.drewN _) hm0).mono ?_
  have HM := Lib.hid hm0
  clear hm0
  rintro e w1 ⟨rfl, rfl⟩
  go_wp2_with fail
  have hG : w.grownBy (w.drewN nq) (some g) := only_drewN (only_refl _ _) _
  have hS : Sk (w.drewN nq) g b r := h.drewN _
  generalize w.drewN nq = wq at *
  go_loopw [19] (fun i wr => ∃ k : Nat, k ≤ m ∧ i = .int .i64 k ∧ Sk wr g b r ∧ w.grownBy wr (some g)) (fun i _ => m - (intOf i).toNat)
  case atStart => exact ⟨0, Nat.zero_le _, rfl, hS, hG⟩
  case round =>
    obtain ⟨k, hk, rfl, hSk, hGk⟩ := hrel
    by_cases hkm : k < m
    · have hc := hSk.cell k (by rw [HM.out]; exact hkm)
      have hv := h.get k
      have hrl : k < r.length := by rw [h.len, HM.out]; exact hkm
      have hra := raise_any g b r k (r.getD k 0) wr hSk (by rw [HM.out]; exact hkm) hv.1 hv.2
      rw [set_self r k hrl] at hra
      have HRA := Lib.hid hra
      clear hra
      generalize r.getD k 0 = v at *
      have hk1 : (k : Int) < m := by omega
      go_wp2_with fail
      refine (HRA.out).mono ?_
      rintro e w2 ⟨rfl, hS2, hG2⟩
      go_wp2_with fail
      go_roundw
      case rel => exact ⟨k + 1, by omega, by go_num, hS2, only_trans hGk hG2⟩
      case measure => simp [intOf]; omega
    · go_wp2_with fail
      go_ret
      exact ⟨rfl, hSk, hGk⟩
end Go.Proofs.YtapiehddcdnadaaGreatDoor
namespace Go.Proofs.YtapiehddcdnadaaGreatDoor
open Go.RowKit
set_option linter.unusedVariables false
set_option linter.unusedSimpArgs false

/-- The sum over the first registers. -/
def sumTo (r : List Int) (k : Nat) : Int := ((r.take k).map fun x => (2 : Int) ^ (26 - x.toNat)).sum
def zeroTo (r : List Int) (k : Nat) : Int := ((r.take k).countP fun x => x == 0 : Nat)
/-- The sum from z + 1 to z + k. -/
def rareTo (m z : Nat) : Nat → Nat
  | 0 => 0
  | k + 1 => rareTo m z k + m * 65536 / (z + k + 1)

theorem sumTo_succ (r : List Int) (k : Nat) (hk : k < r.length) : sumTo r (k + 1) = sumTo r k + (2 : Int) ^ (26 - (r.getD k 0).toNat) := by
  unfold sumTo
  rw [List.take_succ_eq_append_getElem hk, List.map_append, List.sum_append]
  congr 1
  simp [List.getD_eq_getElem?_getD, List.getElem?_eq_getElem hk]
theorem zeroTo_succ (r : List Int) (k : Nat) (hk : k < r.length) : zeroTo r (k + 1) = zeroTo r k + (if r.getD k 0 = 0 then 1 else 0) := by
  unfold zeroTo
  rw [List.take_succ_eq_append_getElem hk, List.countP_append]
  simp only [List.getD_eq_getElem?_getD, List.getElem?_eq_getElem hk, Option.getD_some]
  by_cases h : r[k] = 0 <;> simp [h]
theorem pow_bd (x : Nat) : 1 ≤ (2 : Int) ^ (26 - x) ∧ (2 : Int) ^ (26 - x) ≤ 67108864 := by
  have h1 : 0 < 2 ^ (26 - x) := Nat.two_pow_pos _
  have h2 : 2 ^ (26 - x) ≤ 2 ^ 26 := Nat.pow_le_pow_right (by omega) (by omega)
  have e : (2 : Int) ^ (26 - x) = ((2 ^ (26 - x) : Nat) : Int) := by simp
  rw [e]
  have h3 : (2 : Nat) ^ 26 = 67108864 := by decide
  omega
theorem sumTo_bd (r : List Int) (k : Nat) (hk : k ≤ r.length) : k ≤ sumTo r k ∧ sumTo r k ≤ k * 67108864 := by
  induction k with
  | zero => simp [sumTo]
  | succ k ih =>
    have h1 := ih (by omega)
    have h2 := pow_bd (r.getD k 0).toNat
    rw [sumTo_succ r k (by omega)]
    omega
theorem zeroTo_bd (r : List Int) (k : Nat) : 0 ≤ zeroTo r k ∧ zeroTo r k ≤ k := by
  unfold zeroTo
  have h := List.countP_le_length (p := fun x : Int => x == 0) (l := r.take k)
  have h2 : (r.take k).length ≤ k := List.length_take_le _ _
  omega
/-- The shift by a register, as the walk spells it. -/
theorem shl_reg (v : Int) (h0 : 0 ≤ v) (h1 : v ≤ 26) : IntKind.u64.wrap ((2 : Int) ^ (26 - v).toNat) = (2 : Int) ^ (26 - v.toNat) := by
  have e : (26 - v).toNat = 26 - v.toNat := by omega
  rw [e]
  have := pow_bd v.toNat
  exact IntWalk.u64_in _ (by omega)
theorem alphaN_bd (b : Nat) (h : b = 4 ∨ b = 5 ∨ b = 6 ∨ b = 7 ∨ b = 8 ∨ b = 9 ∨ b = 10) : 1 ≤ alphaN b ∧ alphaN b ≤ 7213 := by
  rcases h with rfl | rfl | rfl | rfl | rfl | rfl | rfl <;> decide +kernel

theorem rareTo_bd (m z k : Nat) (hm : m ≤ 1024) : rareTo m z k ≤ k * 67108864 := by
  induction k with
  | zero => simp [rareTo]
  | succ k ih =>
    have h1 : m * 65536 / (z + k + 1) ≤ m * 65536 := Nat.div_le_self _ _
    simp only [rareTo]
    omega
def rawI (b : Nat) (S : Int) : Int := ((alphaN b * 2 ^ b * 2 ^ b : Nat) : Int) * 67108864 / (10000 * S)
/-- The estimate. -/
def estI (b : Nat) (r : List Int) : Int :=
  if zeroTo r (2 ^ b) = 0 ∨ 5 * ((2 ^ b : Nat) : Int) / 2 < rawI b (sumTo r (2 ^ b)) then rawI b (sumTo r (2 ^ b))
  else ((rareTo (2 ^ b) (zeroTo r (2 ^ b)).toNat (2 ^ b - (zeroTo r (2 ^ b)).toNat) : Nat) : Int) / 65536

set_option maxRecDepth 100000 in
set_option maxHeartbeats 1000000 in
theorem Estimate_any (g b : Nat) (r : List Int) (w : World) (h : Sk w g b r) :
    Calls Tryz.prog 36 #[.pointer (some ⟨g, 0, none⟩)] w fun e w' => e = .returned (.int .u64 (estI b r)) ∧ Below w.heap.size w w' := by
  have hest : ∃ E, E = estI b r := ⟨_, rfl⟩
  obtain ⟨E, hE⟩ := hest
  rw [← hE]
  have HE := Lib.hid hE
  clear hE
  have c0 := h.cell0
  have hm : 2 ^ b ≤ 1024 := by have := Nat.pow_le_pow_right (n := 2) (by omega) h.hi; simpa using this
  have hm2 : 16 ≤ 2 ^ b := by have := Nat.pow_le_pow_right (n := 2) (by omega) h.lo; simpa using this
  have hs := shl1 b h.bits_cases
  obtain ⟨m, hm0⟩ : ∃ m, 2 ^ b = m := ⟨_, rfl⟩
  rw [hm0] at hm hm2 hs
  have hu := fun W hS => used_m g b m r W hS hm0
  have HU := Lib.hid hu
  have HM := Lib.hid hm0
  clear hm0 hu
  go_enter Tryz.func36, Tryz.ntmps36
  go_wp2_with fail
  refine (HU.out _ h).mono ?_
  rintro e w1 ⟨rfl, rfl⟩
  go_wp2_with fail
  go_loop [4, 5, 19] (fun s z i => ∃ k : Nat, k ≤ m ∧ i = .int .i64 k ∧ s = .int .u64 (sumTo r k) ∧ z = .int .u64 (zeroTo r k)) (fun _ _ i => m - (intOf i).toNat)
  case atStart => exact ⟨0, Nat.zero_le _, rfl, rfl, rfl⟩
  case round =>
    obtain ⟨k, hk, rfl, rfl, rfl⟩ := hrel
    have hrl : m = r.length := by rw [h.len, HM.out]
    have b1 := sumTo_bd r k (by omega)
    have b2 := zeroTo_bd r k
    by_cases hkm : k < m
    · have hc := h.cell k (by rw [HM.out]; exact hkm)
      have hv := h.get k
      have HS := Lib.hid (sumTo_succ r k (by omega))
      have HZ := Lib.hid (zeroTo_succ r k (by omega))
      have hsh := shl_reg (r.getD k 0) hv.1 hv.2
      have hp := pow_bd (r.getD k 0).toNat
      generalize r.getD k 0 = v at *
      generalize hp0 : (2 : Int) ^ (26 - v.toNat) = p at *
      have HP := Lib.hid hp0
      clear hp0
      clear hrl
      have hk1 : (k : Int) < m := by omega
      generalize hS : sumTo r k = sk at *
      generalize hZ : zeroTo r k = zk at *
      have HS1 := Lib.hid hS
      have HZ1 := Lib.hid hZ
      clear hS hZ
      by_cases hv0 : v = 0
      · subst hv0
        go_wp2_with fail
        go_round
        case rel => exact ⟨k + 1, by omega, by go_num, by rw [HS.out, ← HP.out]; rfl, by rw [HZ.out]; simp⟩
        case measure => simp [intOf]; omega
      · have hv1 : (v == 0) = false := by simpa using hv0
        go_wp2_with fail
        go_round
        case rel => exact ⟨k + 1, by omega, by go_num, by rw [HS.out], by rw [HZ.out, if_neg hv0]; simp⟩
        case measure => simp [intOf]; omega
    · obtain rfl : k = m := by omega
      have hE := HE.out
      unfold estI rawI at hE
      rw [HM.out] at hE
      have HE2 := Lib.hid hE
      clear hE HE hrl hk hkm
      generalize sumTo r k = S at *
      generalize zeroTo r k = Z at *
      go_wp2_with fail
      have hal := alpha_any g b w c0 h.bits_cases
      have hab := alphaN_bd b h.bits_cases
      generalize alphaN b = al at *
      refine hal.mono ?_
      clear hal
      rintro e w2 ⟨rfl, hb2⟩
      obtain ⟨am, ham⟩ : ∃ am : Nat, al * k = am := ⟨_, rfl⟩
      obtain ⟨amm, hamm⟩ : ∃ amm : Nat, am * k = amm := ⟨_, rfl⟩
      have hE3 := HE2.out
      rw [ham, hamm] at hE3
      have ham1 : am ≤ 7213 * 1024 := by rw [← ham]; exact Nat.mul_le_mul (by omega) (by omega)
      have hamm1 : amm ≤ 7213 * 1024 * 1024 := by rw [← hamm]; exact Nat.mul_le_mul (by omega) (by omega)
      have e1 : IntKind.u64.wrap ((al : Int) * k) = am := by rw [← ham, IntWalk.u64_in _ (by omega)]; simp
      have e2 : IntKind.u64.wrap ((am : Int) * k) = amm := by rw [← hamm, IntWalk.u64_in _ (by omega)]; simp
      clear ham hamm HE2
      have HE3 := Lib.hid hE3
      clear hE3
      obtain ⟨z, rfl⟩ := Int.eq_ofNat_of_zero_le b2.1
      by_cases hZ : (z : Int) = 0
      · have hf : E = (amm : Int) * 67108864 / (10000 * S) := by rw [HE3.out, if_pos (.inl hZ)]
        have HF := Lib.hid hf
        obtain rfl : z = 0 := by omega
        clear hf hZ
        go_wp2_with fail
        all_goals
          go_ret
          exact ⟨ret_int HF.out.symm, hb2⟩
      · have hZ1 : ((z : Int) == 0) = false := by simpa using hZ
        by_cases hq2 : 5 * (k : Int) / 2 < (amm : Int) * 67108864 / (10000 * S)
        · have hf : E = (amm : Int) * 67108864 / (10000 * S) := by rw [HE3.out, if_pos (.inr hq2)]
          have HF := Lib.hid hf
          clear hf
          go_wp2_with fail
          go_ret
          exact ⟨ret_int HF.out.symm, hb2⟩
        · have hf : E = ((rareTo k z (k - z) : Nat) : Int) / 65536 := by rw [HE3.out, if_neg (by simp only [not_or]; exact ⟨hZ, hq2⟩)]; simp
          have HF := Lib.hid hf
          clear hf
          go_wp2_with fail
          go_loop [9, 10] (fun s i => ∃ j : Nat, j ≤ k - z ∧ i = .int .u64 ((z : Int) + 1 + j) ∧ s = .int .u64 (rareTo k z j)) (fun _ i => k + 1 - (intOf i).toNat)
          case atStart => exact ⟨0, Nat.zero_le _, by simp, by simp [rareTo]⟩
          case round =>
            obtain ⟨j, hj, rfl, rfl⟩ := hrel
            have hrb := rareTo_bd k z j hm
            by_cases hjk : j < k - z
            · have hR : rareTo k z (j + 1) = rareTo k z j + k * 65536 / (z + j + 1) := rfl
              have hd : k * 65536 / (z + j + 1) ≤ k * 65536 := Nat.div_le_self _ _
              have hD : (k : Int) * 65536 / ((z : Int) + 1 + j) = ((k * 65536 / (z + j + 1) : Nat) : Int) := by
                rw [Int.natCast_ediv]; congr 1; simp; omega
              generalize k * 65536 / (z + j + 1) = x at *
              have HR := Lib.hid hR
              clear hR
              generalize rareTo k z j = ra at *
              go_wp2_with fail
              go_round
              case rel => exact ⟨j + 1, by omega, by go_num, by rw [HR.out]; go_num⟩
              case measure => simp [intOf]; omega
            · obtain rfl : j = k - z := by omega
              go_wp2_with fail
              go_ret
              exact ⟨ret_int HF.out.symm, hb2⟩
end Go.Proofs.YtapiehddcdnadaaGreatDoor

/- New, Seen, Room, Clear, Least. -/
import Derived.Test.YtcbheekfdhklcaaTopE
namespace Go.Proofs.Ytcbheekfdhklcaa
open Go.RowKit
set_option linter.unusedVariables false
set_option linter.unusedSimpArgs false

theorem fldI_1 (a : ByteArray) (b c : Int) (w : World) : (Instr.field 35 (.agg #[.string a, .int .u64 b, .int .u64 c]) 1).run Try.prog w = .ok (.int .u64 b) w := by kernel_rfl
attribute [local go_sem] fldI_1
theorem new_no (k : Int) (hk : k < 1 ∨ 16 < k) (w : World) : Calls Try.prog 10 #[.int .i64 k] w fun e w' => e = .returned (.tuple #[.pointer none, .int .i64 1]) ∧ w' = w := by
  by_cases h : k < 1
  · clear hk
    go_enter Try.func10, Try.ntmps10
    go_wp2_with fail
    go_ret2
    exact ⟨rfl, rfl⟩
  · have h2 : 16 < k := by omega
    clear hk
    go_enter Try.func10, Try.ntmps10
    go_wp2_with fail
    go_ret2
    exact ⟨rfl, rfl⟩
theorem new_yes (k : Nat) (h0 : 1 ≤ k) (h1 : k ≤ 16) (base : Nat) (w : World) (hb : base ≤ w.heap.size) : Calls Try.prog 10 #[.int .i64 k] w fun e w' => e = .returned (.tuple #[.pointer (some ⟨w.heap.size, 0, none⟩), .int .i64 0]) ∧ Tp w' base w.heap.size k 0 none 0 0 [] ∧ Below w.heap.size w w' ∧ w.heap.size < w'.heap.size := by
  have a1 : ¬ (k : Int) < 1 := by omega
  have a2 : ¬ (16 : Int) < k := by omega
  go_enter Try.func10, Try.ntmps10
  go_wp2_with fail
  go_ret2
  exact ⟨rfl, ⟨Blk.new w _ _, Its.nil, hb, ⟨h0, h1⟩, Nat.zero_le _, Nat.zero_le _, fun x hx => by cases hx⟩, balloc (Below.refl _ _) _, by simp⟩
theorem seen_call {base g room seen : Nat} {A : Option Addr} {n c : Nat} {l : List It} {w : World} (T : Tp w base g room seen A n c l) :
    Calls Try.prog 13 #[.pointer (some ⟨g, 0, none⟩)] w fun e w' => e = .returned (.int .u64 seen) ∧ w' = w := by
  have c2 : w.cell? ⟨g, 2, none⟩ = some (.int .u64 seen) := T.blk.cellAt 2 rfl
  have hlt := T.blk.lt
  go_enter Try.func13, Try.ntmps13
  go_wp2_with fail
  go_ret
  exact ⟨rfl, rfl⟩
theorem room_call {base g room seen : Nat} {A : Option Addr} {n c : Nat} {l : List It} {w : World} (T : Tp w base g room seen A n c l) :
    Calls Try.prog 26 #[.pointer (some ⟨g, 0, none⟩)] w fun e w' => e = .returned (.int .i64 room) ∧ w' = w := by
  have c2 : w.cell? ⟨g, 1, none⟩ = some (.int .i64 room) := T.blk.cellAt 1 rfl
  have hlt := T.blk.lt
  go_enter Try.func26, Try.ntmps26
  go_wp2_with fail
  go_ret
  exact ⟨rfl, rfl⟩
set_option maxHeartbeats 1000000 in
theorem clear_call {base g room seen : Nat} {A : Option Addr} {n c : Nat} {l : List It} {w : World} (T : Tp w base g room seen A n c l) :
    Calls Try.prog 15 #[.pointer (some ⟨g, 0, none⟩)] w fun e w' => e = .returned (.tuple #[]) ∧ Tp w' base g room 0 none 0 0 [] ∧ Only w w' (fun i => i = g) := by
  have c0 : w.cell? ⟨g, 0, none⟩ = some (.slice A n c) := T.blk.cellAt 0 rfl
  have c2 : w.cell? ⟨g, 2, none⟩ = some (.int .u64 seen) := T.blk.cellAt 2 rfl
  have f0 := T.blk.frozen 0
  have f2 := T.blk.frozen 2
  have f2' := (T.blk.put 0 (.slice none 0 0)).frozen 2
  have hlt := T.blk.lt
  have hB : Blk ((w.setCell ⟨g, 0, none⟩ (.slice none 0 0)).setCell ⟨g, 2, none⟩ (.int .u64 0)) g 63 #[.slice none 0 0, .int .i64 room, .int .u64 0] := (T.blk.put 0 (.slice none 0 0)).put 2 (.int .u64 0)
  have hG : w.grownBy ((w.setCell ⟨g, 0, none⟩ (.slice none 0 0)).setCell ⟨g, 2, none⟩ (.int .u64 0)) (some g) := only_setCell (p := ⟨g, 2, none⟩) (only_setCell (p := ⟨g, 0, none⟩) (only_refl _ _) (.inl rfl) _) (.inl rfl) _
  go_enter Try.func15, Try.ntmps15
  go_wp2_with fail
  go_end0
  exact ⟨rfl, ⟨hB, Its.nil, T.g0, T.rm, Nat.zero_le _, Nat.zero_le _, fun x hx => by cases hx⟩, Only.of_grown hG (fun i hi => by cases hi; rfl)⟩

theorem least_min {l : List It} {x : It} (hx : x ∈ l) (h : ∀ y ∈ l, x.many ≤ y.many) : x.many = (l.getD (worst l) default).many := by
  have hl : l ≠ [] := fun e => by subst e; cases hx
  have h1 := worst_min l x hx
  have h2 := h _ (worstI_mem hl)
  unfold worstI at h2
  omega
set_option maxRecDepth 100000 in
theorem least_call {base g room seen : Nat} {A : Option Addr} {n c : Nat} {l : List It} {w : World} (T : Tp w base g room seen A n c l) :
    Calls Try.prog 14 #[.pointer (some ⟨g, 0, none⟩)] w fun e w' => e = .returned (.int .u64 (leastT room l)) ∧ Below w.heap.size w w' := by
  have c0 : w.cell? ⟨g, 0, none⟩ = some (.slice A n c) := T.blk.cellAt 0 rfl
  have c1 : w.cell? ⟨g, 1, none⟩ = some (.int .i64 room) := T.blk.cellAt 1 rfl
  have hlt := T.blk.lt
  have hln := T.its.len
  have hroom := T.ln
  have hrm := T.rm
  by_cases hr : n < room
  · have e : leastT room l = 0 := by unfold leastT; rw [if_pos (by omega)]
    rw [e]
    have hr1 : (n : Int) < room := by omega
    clear e
    go_enter Try.func14, Try.ntmps14
    go_wp2_with fail
    go_quiet (fail)
    go_wp2_with fail
    go_ret
    exact ⟨rfl, bdrewN (Below.refl _ _) _⟩
  · have e : leastT room l = (l.getD (worst l) default).many := by unfold leastT; rw [if_neg (by omega)]
    rw [e]
    have hr1 : ¬ (n : Int) < room := by omega
    clear e
    generalize hM : (l.getD (worst l) default).many = m
    have HM := Lib.hid hM
    clear hM
    go_enter Try.func14, Try.ntmps14
    go_wp2_with fail
    go_quiet (fail)
    have hBd : Below w.heap.size w (w.drewN nq) := bdrewN (Below.refl _ _) _
    have hI : Its (w.drewN nq) base A n c l := ⟨T.its.own.kept (only_of_below hBd none) (by rcases Value.ownBlock (.slice A n c) with _ | z; exact .inl rfl; exact .inr (by simp))⟩
    have cgd : (w.drewN nq).cell? ⟨g, 0, none⟩ = some (.slice A n c) := c0
    have hg3 : g < (w.drewN nq).heap.size := hlt
    generalize w.drewN nq = wq at *
    go_wp2_with (first
      | (go_at_call 31
         refine (min_call base A n c l wq hI (by omega) (by omega)).mono ?_
         rintro e w1 ⟨⟨x, hx, hmin, rfl⟩, hb⟩
         have hxm := Lib.hid (least_min hx hmin)
         clear hx hmin))
    go_ret
    exact ⟨by rw [← HM.out, ← hxm.out]; rfl, bstep hb hBd⟩
end Go.Proofs.Ytcbheekfdhklcaa

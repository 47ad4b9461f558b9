/- The gate's functions (Set, New, See, open, Turn, the chapter's own, the examples): each returns what its plain Lean twin says, whatever it is given; what lay in memory stays. No condition. -/
import Derived.Test.YtdlnadlllgkleaaProg
import Derived.Test.YtdlnadlllgkleaaAux
namespace Go.Proofs.Ytdlnadlllgkleaa
open Go.RowKit
set_option linter.unusedVariables false
set_option linter.unusedSimpArgs false

theorem ret_agg3 {c d : Bool} {a b a' b' : Int} (h0 : c = d) (h1 : a = a') (h2 : b = b') : Ending.returned (.agg #[.bool c, .int .u64 a, .int .u64 b]) = .returned (.agg #[.bool d, .int .u64 a', .int .u64 b']) := by rw [h0, h1, h2]

theorem fld24_0 (c : Bool) (lo hi : Int) (w : World) : (Instr.field 24 (.agg #[.bool c, .int .u64 lo, .int .u64 hi]) 0).run Try.prog w = .ok (.bool c) w := by kernel_rfl
theorem fld24_1 (c : Bool) (lo hi : Int) (w : World) : (Instr.field 24 (.agg #[.bool c, .int .u64 lo, .int .u64 hi]) 1).run Try.prog w = .ok (.int .u64 lo) w := by kernel_rfl
theorem fld24_2 (c : Bool) (lo hi : Int) (w : World) : (Instr.field 24 (.agg #[.bool c, .int .u64 lo, .int .u64 hi]) 2).run Try.prog w = .ok (.int .u64 hi) w := by kernel_rfl
attribute [local go_sem] fld24_0 fld24_1 fld24_2

theorem set_any (c : Bool) (lo hi a b : Int) (w : World) :
    Calls Try.prog 14 #[.agg #[.bool c, .int .u64 lo, .int .u64 hi], .int .u64 a, .int .u64 b] w fun e w' => e = .returned (.agg #[.bool c, .int .u64 (min a b), .int .u64 b]) ∧ Below w.heap.size w w' := by
  go_enter Try.func14, Try.ntmps14
  go_wp2
  all_goals first
    | exact bodyPost_ret (v := .agg #[.bool c, .int .u64 a, .int .u64 b]) (by simp [results, Try.results14, go_sem]) rfl ⟨ret_agg3 rfl (by omega) rfl, balloc (balloc (Below.refl _ _) _) _⟩
    | exact bodyPost_ret (v := .agg #[.bool c, .int .u64 b, .int .u64 b]) (by simp [results, Try.results14, go_sem]) rfl ⟨ret_agg3 rfl (by omega) rfl, balloc (balloc (Below.refl _ _) _) _⟩

theorem see_any (c : Bool) (lo hi n : Int) (w : World) :
    Calls Try.prog 10 #[.agg #[.bool c, .int .u64 lo, .int .u64 hi], .int .u64 n] w fun e w' => e = .returned (.agg #[.bool (c || decide (hi ≤ n)), .int .u64 lo, .int .u64 hi]) ∧ Below w.heap.size w w' := by
  cases c
  · go_enter Try.func10, Try.ntmps10
    go_wp2
    exact bodyPost_ret (v := .agg #[.bool (decide (hi ≤ n)), .int .u64 lo, .int .u64 hi]) (by simp [results, Try.results10, go_sem]) rfl ⟨ret_agg3 (by simp) rfl rfl, balloc (balloc (Below.refl _ _) _) _⟩
  · go_enter Try.func10, Try.ntmps10
    go_wp2
    exact bodyPost_ret (v := .agg #[.bool true, .int .u64 lo, .int .u64 hi]) (by simp [results, Try.results10, go_sem]) rfl ⟨ret_agg3 (by simp) rfl rfl, balloc (balloc (Below.refl _ _) _) _⟩

theorem new_any (a b : Int) (w : World) :
    Calls Try.prog 8 #[.int .u64 a, .int .u64 b] w fun e w' => e = .returned (.agg #[.bool false, .int .u64 (min a b), .int .u64 b]) ∧ Below w.heap.size w w' := by
  go_enter Try.func8, Try.ntmps8
  go_wp2_with (go_at_call 14; refine (set_any _ _ _ _ _ _).mono ?_; rintro e w1 ⟨rfl, hb⟩; obtain ⟨hc, hf⟩ := bcell hb; have hz : w.heap.size < w1.heap.size := (by have := hb.size; simp at this; omega))
  refine bodyPost_ret (v := .agg #[.bool false, .int .u64 (min a b), .int .u64 b]) (by simp [results, Try.results8, go_sem, hc, hf, hz]) rfl ⟨rfl, ?_⟩
  repeat refine Below.setCell ?_ (by simp) _
  exact bstep hb (balloc (Below.refl _ _) _)

theorem eqA24 (d : Nat) (w : World) (x0 y0 : Bool) (x1 y1 : Int) (x2 y2 : Int) :
    (Op.equalIn (d + 2) 24 (.agg #[.bool x0, .int .u64 x1, .int .u64 x2]) (.agg #[.bool y0, .int .u64 y1, .int .u64 y2])).run Try.prog w = .ok (x0 == y0 && (x1 == y1 && (x2 == y2 && true))) w := by
  refine struct_eq Try.underlying24 (by kernel_rfl) ?_
  refine fields_cons (by rfl) (by go_simp; rfl) (by go_simp; rfl) (by go_simp) ?_
  refine fields_cons (by rfl) (by go_simp; rfl) (by go_simp; rfl) (by go_simp) ?_
  exact fields_cons (by rfl) (by go_simp; rfl) (by go_simp; rfl) (by go_simp) fields_nil
theorem eq24 (w : World) (x0 y0 : Bool) (x1 y1 : Int) (x2 y2 : Int) :
    (Op.equalIn 10000 24 (.agg #[.bool x0, .int .u64 x1, .int .u64 x2]) (.agg #[.bool y0, .int .u64 y1, .int .u64 y2])).run Try.prog w = .ok (x0 == y0 && (x1 == y1 && (x2 == y2))) w := by
  have h := eqA24 9998 w x0 y0 x1 y1 x2 y2
  rw [Bool.and_true] at h
  exact h
attribute [local go_sem high] eq24
theorem guard24 : Try.prog.eqGuardType Try.prog.depth 24 = false := by kernel_rfl

theorem open_any (c : Bool) (lo hi : Int) (w : World) :
    Calls Try.prog 17 #[.agg #[.bool c, .int .u64 lo, .int .u64 hi]] w fun e w' => e = .returned (.bool (c == false && (lo == min lo hi && hi == hi))) ∧ Below w.heap.size w w' := by
  have hg := guard24
  go_enter Try.func17, Try.ntmps17
  go_wp2_with fail
  go_region_held3 (fun w' => w'.cell? ⟨w.heap.size, 0, none⟩ = some (.bool c) ∧ w'.cell? ⟨w.heap.size, 1, none⟩ = some (.int .u64 lo) ∧ w'.cell? ⟨w.heap.size, 2, none⟩ = some (.int .u64 hi)) (first | exact ⟨by simp, by simp, by simp⟩ | exact ⟨(hc _ _ (by simp)).trans (by simp), (hc _ _ (by simp)).trans (by simp), (hc _ _ (by simp)).trans (by simp)⟩)
    (first | (go_at_call 8; refine (new_any _ _ _).mono ?_; rintro e w1 ⟨rfl, hb⟩; have hc := (bcell hb).1))
  go_wp2
  go_ret
  exact ⟨by simp, bstep hb (Below.drew (balloc (Below.refl _ _) _))⟩

theorem turn_any (c : Bool) (lo hi n : Int) (w : World) :
    Calls Try.prog 12 #[.agg #[.bool c, .int .u64 lo, .int .u64 hi], .int .u64 n] w fun e w' => e = .returned (.agg #[.bool (c && decide (lo < n)), .int .u64 lo, .int .u64 hi]) ∧ Below w.heap.size w w' := by
  obtain ⟨o, ho⟩ : ∃ o, o = (c == false && (lo == min lo hi && hi == hi)) := ⟨_, rfl⟩
  have hopen : ∀ w, Calls Try.prog 17 #[.agg #[.bool c, .int .u64 lo, .int .u64 hi]] w fun e w' => e = .returned (.bool o) ∧ Below w.heap.size w w' := by rw [ho]; exact open_any c lo hi
  have hcases : (o = true ∧ c = false) ∨ (o = false ∧ c = false) ∨ (o = false ∧ c = true) := by
    rw [ho]; cases c
    · cases (false == false && (lo == min lo hi && hi == hi)) <;> simp
    · simp
  have Hopen := Lib.hid hopen
  clear hopen ho
  rcases hcases with ⟨rfl, rfl⟩ | ⟨rfl, rfl⟩ | ⟨rfl, rfl⟩
  all_goals
    go_enter Try.func12, Try.ntmps12
    go_wp2_with (go_at_call 17; refine (Hopen.out _).mono ?_; rintro e w1 ⟨rfl, hb⟩; have B0 := Blk.step hb ((Blk.new _ _ _).alloc _); have B1 := Blk.step hb (Blk.newAt (g := w.heap.size + 1) (by simp)); have C0 := B0.cell; have C1 := B1.cell; have F0 := B0.frozen; have F1 := B1.frozen)
    refine bodyPost_ret (by simp [results, Try.results12, go_sem, C0, C1, F0, F1]; rfl) rfl ⟨ret_agg3 (by simp) rfl rfl, ?_⟩
    repeat refine bset ?_ (by simp) _
    exact bstep hb (balloc (balloc (Below.refl _ _) _) _)

theorem rnew_any (a b : Int) (w : World) :
    Calls Try.prog 16 #[.int .u64 a, .int .u64 b] w fun e w' => e = .returned (.agg #[.bool false, .int .u64 (min a b), .int .u64 b]) ∧ Below w.heap.size w w' := by
  go_enter Try.func16, Try.ntmps16
  go_wp2
  all_goals
    refine bodyPost_ret (by simp [results, Try.results16, go_sem]; rfl) rfl ⟨ret_agg3 rfl (by omega) rfl, ?_⟩
    exact balloc (Below.refl _ _) _
theorem rsee_any (c : Bool) (lo hi n : Int) (w : World) :
    Calls Try.prog 11 #[.agg #[.bool c, .int .u64 lo, .int .u64 hi], .int .u64 n] w fun e w' => e = .returned (.agg #[.bool (c || decide (hi ≤ n)), .int .u64 lo, .int .u64 hi]) ∧ Below w.heap.size w w' := by
  go_enter Try.func11, Try.ntmps11
  go_wp2
  all_goals
    refine bodyPost_ret (by simp [results, Try.results11, go_sem]; rfl) rfl ⟨ret_agg3 (by simp; omega) rfl rfl, ?_⟩
    exact balloc (balloc (Below.refl _ _) _) _
theorem rturn_any (c : Bool) (lo hi n : Int) (w : World) :
    Calls Try.prog 13 #[.agg #[.bool c, .int .u64 lo, .int .u64 hi], .int .u64 n] w fun e w' => e = .returned (.agg #[.bool (c && decide (lo < n)), .int .u64 lo, .int .u64 hi]) ∧ Below w.heap.size w w' := by
  go_enter Try.func13, Try.ntmps13
  go_wp2
  all_goals
    refine bodyPost_ret (by simp [results, Try.results13, go_sem]; rfl) rfl ⟨ret_agg3 (by simp; omega) rfl rfl, ?_⟩
    exact balloc (balloc (Below.refl _ _) _) _
theorem rset_any (c : Bool) (lo hi a b : Int) (w : World) :
    Calls Try.prog 15 #[.agg #[.bool c, .int .u64 lo, .int .u64 hi], .int .u64 a, .int .u64 b] w fun e w' => e = .returned (.agg #[.bool c, .int .u64 (min a b), .int .u64 b]) ∧ Below w.heap.size w w' := by
  go_enter Try.func15, Try.ntmps15
  go_wp2_with fail
  refine (rnew_any _ _ _).mono ?_
  rintro e w1 ⟨rfl, hb⟩
  have B0 := Blk.step hb ((Blk.new _ _ _).alloc _)
  have C0 := B0.cell
  have L0 := B0.lt
  have F0 := B0.frozen
  have B1 := Blk.step hb (Blk.newAt (g := w.heap.size + 1) (by simp))
  have C1 := B1.cell
  have L1 := B1.lt
  have F1 := B1.frozen
  go_wp2_with fail
  refine bodyPost_ret (by simp [results, Try.results15, go_sem, C1, F1, L1]) rfl ⟨ret_agg3 rfl rfl rfl, ?_⟩
  exact balloc (bset (bset (bset (bstep hb (balloc (balloc (Below.refl _ _) _) _)) (by simp) _) (by simp) _) (by simp) _) _

theorem same_any (c d : Bool) (lo hi lo' hi' : Int) (w : World) (h : c = d ∧ lo = lo' ∧ hi = hi') :
    Calls Try.prog 9 #[.agg #[.bool c, .int .u64 lo, .int .u64 hi], .agg #[.bool d, .int .u64 lo', .int .u64 hi']] w fun e w' => e = .returned (.bool true) ∧ Below w.heap.size w w' := by
  obtain ⟨rfl, rfl, rfl⟩ := h
  go_enter Try.func9, Try.ntmps9
  go_wp2
  go_ret
  exact ⟨rfl, balloc (balloc (Below.refl _ _) _) _⟩

theorem examples_any (w : World) : Calls Try.prog 7 #[] w fun e w' => e = .returned (.bool true) ∧ Below w.heap.size w w' := by
  go_enter Try.func7, Try.ntmps7
  go_wp2_with fail
  refine (new_any _ _ _).mono ?_
  rintro e w1 ⟨rfl, h1⟩
  have hm : min (1 : Int) 2 = 1 := rfl
  go_wp2_with fail
  refine (see_any _ _ _ _ _).mono ?_
  rintro e w2 ⟨rfl, h2⟩
  have B1 := Blk.step h2 (Blk.new _ _ _)
  have C1 := B1.cell
  have L1 := B1.lt
  go_wp2_with fail
  refine (turn_any _ _ _ _ _).mono ?_
  rintro e w3 ⟨rfl, h3⟩
  have B2 := Blk.step h3 (B1.alloc _)
  have B3 := Blk.step h3 (Blk.new _ _ _)
  clear C1 L1 B1
  have C2 := B2.cell
  have L2 := B2.lt
  have C3 := B3.cell
  have L3 := B3.lt
  go_wp2_with fail
  refine (turn_any _ _ _ _ _).mono ?_
  rintro e w4 ⟨rfl, h4⟩
  have B4 := Blk.step h4 B2
  have B5 := Blk.step h4 B3
  clear C2 C3 L2 L3 B2 B3
  have C4 := B4.cell
  have L4 := B4.lt
  have C5 := B5.cell
  have L5 := B5.lt
  go_wp2_with fail
  refine (new_any _ _ _).mono ?_
  rintro e w5 ⟨rfl, h5⟩
  have B6 := Blk.step h5 B5
  clear C4 C5 L4 L5 B4 B5
  have C6 := B6.cell
  have L6 := B6.lt
  have hm2 : min (5 : Int) 2 = 2 := rfl
  go_wp2_with fail
  refine (set_any _ _ _ _ _ _).mono ?_
  rintro e w6 ⟨rfl, h6⟩
  go_wp2_with fail
  go_ret
  refine ⟨by simp, ?_⟩
  exact bstep h6 (bstep h5 (bstep h4 (bstep h3 (balloc (bstep h2 (balloc (bstep h1 (Below.refl _ _)) _)) _))))
end Go.Proofs.Ytdlnadlllgkleaa

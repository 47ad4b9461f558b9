/- The gate's functions (Set, New, See, open, Turn, the chapter's own, the examples): each returns what its plain Lean twin says, whatever it is given; what lay in memory stays. No condition. -/
import Derived.Test.YtapiehddcdnadaaDoorProg
import Derived.Test.YtapiehddcdnadaaDoorAux
namespace Go.Proofs.YtapiehddcdnadaaDoor
open Go.RowKit
set_option linter.unusedVariables false
set_option linter.unusedSimpArgs false

theorem ret_agg3 {c d : Bool} {a b a' b' : Int} (h0 : c = d) (h1 : a = a') (h2 : b = b') : Ending.returned (.agg #[.bool c, .int .u64 a, .int .u64 b]) = .returned (.agg #[.bool d, .int .u64 a', .int .u64 b']) := by rw [h0, h1, h2]

theorem fld24_0 (c : Bool) (lo hi : Int) (w : World) : (Instr.field 59 (.agg #[.bool c, .int .u64 lo, .int .u64 hi]) 0).run Tryd.prog w = .ok (.bool c) w := by kernel_rfl
theorem fld24_1 (c : Bool) (lo hi : Int) (w : World) : (Instr.field 59 (.agg #[.bool c, .int .u64 lo, .int .u64 hi]) 1).run Tryd.prog w = .ok (.int .u64 lo) w := by kernel_rfl
theorem fld24_2 (c : Bool) (lo hi : Int) (w : World) : (Instr.field 59 (.agg #[.bool c, .int .u64 lo, .int .u64 hi]) 2).run Tryd.prog w = .ok (.int .u64 hi) w := by kernel_rfl
attribute [local go_sem] fld24_0 fld24_1 fld24_2

theorem gset_any (c : Bool) (lo hi a b : Int) (w : World) :
    Calls Tryd.prog 35 #[.agg #[.bool c, .int .u64 lo, .int .u64 hi], .int .u64 a, .int .u64 b] w fun e w' => e = .returned (.agg #[.bool c, .int .u64 (min a b), .int .u64 b]) ∧ Below w.heap.size w w' := by
  go_enter Tryd.func35, Tryd.ntmps35
  go_wp2
  all_goals first
    | exact bodyPost_ret (v := .agg #[.bool c, .int .u64 a, .int .u64 b]) (by simp [results, Tryd.results35, go_sem]) rfl ⟨ret_agg3 rfl (by omega) rfl, balloc (balloc (Below.refl _ _) _) _⟩
    | exact bodyPost_ret (v := .agg #[.bool c, .int .u64 b, .int .u64 b]) (by simp [results, Tryd.results35, go_sem]) rfl ⟨ret_agg3 rfl (by omega) rfl, balloc (balloc (Below.refl _ _) _) _⟩

theorem gsee_any (c : Bool) (lo hi n : Int) (w : World) :
    Calls Tryd.prog 24 #[.agg #[.bool c, .int .u64 lo, .int .u64 hi], .int .u64 n] w fun e w' => e = .returned (.agg #[.bool (c || decide (hi ≤ n)), .int .u64 lo, .int .u64 hi]) ∧ Below w.heap.size w w' := by
  cases c
  · go_enter Tryd.func24, Tryd.ntmps24
    go_wp2
    exact bodyPost_ret (v := .agg #[.bool (decide (hi ≤ n)), .int .u64 lo, .int .u64 hi]) (by simp [results, Tryd.results24, go_sem]) rfl ⟨ret_agg3 (by simp) rfl rfl, balloc (balloc (Below.refl _ _) _) _⟩
  · go_enter Tryd.func24, Tryd.ntmps24
    go_wp2
    exact bodyPost_ret (v := .agg #[.bool true, .int .u64 lo, .int .u64 hi]) (by simp [results, Tryd.results24, go_sem]) rfl ⟨ret_agg3 (by simp) rfl rfl, balloc (balloc (Below.refl _ _) _) _⟩

theorem gnew_any (a b : Int) (w : World) :
    Calls Tryd.prog 19 #[.int .u64 a, .int .u64 b] w fun e w' => e = .returned (.agg #[.bool false, .int .u64 (min a b), .int .u64 b]) ∧ Below w.heap.size w w' := by
  go_enter Tryd.func19, Tryd.ntmps19
  go_wp2_with (go_at_call 35; refine (gset_any _ _ _ _ _ _).mono ?_; rintro e w1 ⟨rfl, hb⟩; obtain ⟨hc, hf⟩ := bcell hb; have hz : w.heap.size < w1.heap.size := (by have := hb.size; simp at this; omega))
  refine bodyPost_ret (v := .agg #[.bool false, .int .u64 (min a b), .int .u64 b]) (by simp [results, Tryd.results19, go_sem, hc, hf, hz]) rfl ⟨rfl, ?_⟩
  repeat refine Below.setCell ?_ (by simp) _
  exact bstep hb (balloc (Below.refl _ _) _)

theorem eqA24 (d : Nat) (w : World) (x0 y0 : Bool) (x1 y1 : Int) (x2 y2 : Int) :
    (Op.equalIn (d + 2) 59 (.agg #[.bool x0, .int .u64 x1, .int .u64 x2]) (.agg #[.bool y0, .int .u64 y1, .int .u64 y2])).run Tryd.prog w = .ok (x0 == y0 && (x1 == y1 && (x2 == y2 && true))) w := by
  refine struct_eq Tryd.underlying59 (by kernel_rfl) ?_
  refine fields_cons (by rfl) (by go_simp; rfl) (by go_simp; rfl) (by go_simp) ?_
  refine fields_cons (by rfl) (by go_simp; rfl) (by go_simp; rfl) (by go_simp) ?_
  exact fields_cons (by rfl) (by go_simp; rfl) (by go_simp; rfl) (by go_simp) fields_nil
theorem eq24 (w : World) (x0 y0 : Bool) (x1 y1 : Int) (x2 y2 : Int) :
    (Op.equalIn 10000 59 (.agg #[.bool x0, .int .u64 x1, .int .u64 x2]) (.agg #[.bool y0, .int .u64 y1, .int .u64 y2])).run Tryd.prog w = .ok (x0 == y0 && (x1 == y1 && (x2 == y2))) w := by
  have h := eqA24 9998 w x0 y0 x1 y1 x2 y2
  rw [Bool.and_true] at h
  exact h
attribute [local go_sem high] eq24
theorem guard24 : Tryd.prog.eqGuardType Tryd.prog.depth 59 = false := by kernel_rfl

theorem gopen_any (c : Bool) (lo hi : Int) (w : World) :
    Calls Tryd.prog 47 #[.agg #[.bool c, .int .u64 lo, .int .u64 hi]] w fun e w' => e = .returned (.bool (c == false && (lo == min lo hi && hi == hi))) ∧ Below w.heap.size w w' := by
  have hg := guard24
  go_enter Tryd.func47, Tryd.ntmps47
  go_wp2_with fail
  go_region_held3 (fun w' => w'.cell? ⟨w.heap.size, 0, none⟩ = some (.bool c) ∧ w'.cell? ⟨w.heap.size, 1, none⟩ = some (.int .u64 lo) ∧ w'.cell? ⟨w.heap.size, 2, none⟩ = some (.int .u64 hi)) (first | exact ⟨by simp, by simp, by simp⟩ | exact ⟨(hc _ _ (by simp)).trans (by simp), (hc _ _ (by simp)).trans (by simp), (hc _ _ (by simp)).trans (by simp)⟩)
    (first | (go_at_call 19; refine (gnew_any _ _ _).mono ?_; rintro e w1 ⟨rfl, hb⟩; have hc := (bcell hb).1))
  go_wp2
  go_ret
  exact ⟨by simp, bstep hb (Below.drew (balloc (Below.refl _ _) _))⟩

theorem gturn_any (c : Bool) (lo hi n : Int) (w : World) :
    Calls Tryd.prog 33 #[.agg #[.bool c, .int .u64 lo, .int .u64 hi], .int .u64 n] w fun e w' => e = .returned (.agg #[.bool (c && decide (lo < n)), .int .u64 lo, .int .u64 hi]) ∧ Below w.heap.size w w' := by
  obtain ⟨o, ho⟩ : ∃ o, o = (c == false && (lo == min lo hi && hi == hi)) := ⟨_, rfl⟩
  have hopen : ∀ w, Calls Tryd.prog 47 #[.agg #[.bool c, .int .u64 lo, .int .u64 hi]] w fun e w' => e = .returned (.bool o) ∧ Below w.heap.size w w' := by rw [ho]; exact gopen_any c lo hi
  have hcases : (o = true ∧ c = false) ∨ (o = false ∧ c = false) ∨ (o = false ∧ c = true) := by
    rw [ho]; cases c
    · cases (false == false && (lo == min lo hi && hi == hi)) <;> simp
    · simp
  have Hopen := Lib.hid hopen
  clear hopen ho
  rcases hcases with ⟨rfl, rfl⟩ | ⟨rfl, rfl⟩ | ⟨rfl, rfl⟩
  all_goals
    go_enter Tryd.func33, Tryd.ntmps33
    go_wp2_with (go_at_call 47; refine (Hopen.out _).mono ?_; rintro e w1 ⟨rfl, hb⟩; have B0 := Blk.step hb ((Blk.new _ _ _).alloc _); have B1 := Blk.step hb (Blk.newAt (g := w.heap.size + 1) (by simp)); have C0 := B0.cell; have C1 := B1.cell; have F0 := B0.frozen; have F1 := B1.frozen)
    refine bodyPost_ret (by simp [results, Tryd.results33, go_sem, C0, C1, F0, F1]; rfl) rfl ⟨ret_agg3 (by simp) rfl rfl, ?_⟩
    repeat refine bset ?_ (by simp) _
    exact bstep hb (balloc (balloc (Below.refl _ _) _) _)

end Go.Proofs.YtapiehddcdnadaaDoor

/- The law's helpers: refs, same, a deed's name. -/
import Derived.Test.YtcbheekfdhklcaaTopW
import Derived.Test.YtcbheekfdhklcaaTopRa
import Derived.Test.YtcbheekfdhklcaaTopJ
namespace Go.Proofs.Ytcbheekfdhklcaa
open Go.RowKit
set_option linter.unusedVariables false
set_option linter.unusedSimpArgs false

theorem RIts.itRow {w : World} {base : Nat} {A : Option Addr} {n c : Nat} {l : List It} (h : RIts w base A n c l) : ItRow w A n l := ⟨h.len, fun hn => by
  obtain ⟨r, rfl, _, hr, _, hc⟩ := h.row hn
  exact ⟨r, 0, rfl, hr, fun i hi => by rw [Nat.zero_add]; exact hc i hi⟩⟩
theorem eqAR (d : Nat) (x y : ByteArray) (x1 y1 x2 y2 : Int) (w : World) :
    (Op.equalIn (d + 2) 52 (.agg #[.string x, .int .u64 x1, .int .u64 x2]) (.agg #[.string y, .int .u64 y1, .int .u64 y2])).run Try.prog w = .ok (x.toList == y.toList && (x1 == y1 && (x2 == y2 && true))) w := by
  refine struct_eq Try.underlying52 (by kernel_rfl) ?_
  refine fields_cons (by rfl) (by go_simp; rfl) (by go_simp; rfl) (by go_simp) ?_
  refine fields_cons (by rfl) (by go_simp; rfl) (by go_simp; rfl) (by go_simp) ?_
  exact fields_cons (by rfl) (by go_simp; rfl) (by go_simp; rfl) (by go_simp) fields_nil
theorem eqR (x y : ByteArray) (x1 y1 x2 y2 : Int) (w : World) :
    (Op.equalIn 10000 52 (.agg #[.string x, .int .u64 x1, .int .u64 x2]) (.agg #[.string y, .int .u64 y1, .int .u64 y2])).run Try.prog w = .ok (x.toList == y.toList && (x1 == y1 && (x2 == y2))) w := by
  have h := eqAR 9998 x y x1 y1 x2 y2 w
  rw [Bool.and_true] at h
  exact h
theorem guardR : Try.prog.eqGuardType Try.prog.depth 52 = false := by kernel_rfl
attribute [local go_sem high] eqR
theorem neqR (x : ByteArray) (a b : Int) (w : World) : (binOp .neq 52 (.agg #[.string x, .int .u64 a, .int .u64 b]) (.agg #[.string x, .int .u64 a, .int .u64 b])).run Try.prog w = .ok (.bool false) w := by
  go_simp
attribute [local go_sem high] neqR

set_option maxRecDepth 100000 in
set_option maxHeartbeats 1000000 in
theorem same_call (A1 A2 : Option Addr) (n c1 c2 : Nat) (l : List It) (w : World) (R1 : ItRow w A1 n l) (R2 : ItRow w A2 n l) (hn16 : n ≤ 16) (h1 : n ≤ c1) (h2 : n ≤ c2) :
    Calls Try.prog 23 #[.slice A1 n c1, .slice A2 n c2] w fun e w' => e = .returned (.bool true) ∧ Below w.heap.size w w' := by
  have hgi := guardR
  go_enter Try.func23, Try.ntmps23
  go_wp2_with fail
  go_loopw [5] (fun i wr => ∃ q : Nat, q ≤ n ∧ i = .int .i64 q ∧ Below w.heap.size w wr) (fun i _ => n - (intOf i).toNat)
  case atStart => exact ⟨0, Nat.zero_le _, rfl, Below.refl _ _⟩
  case round =>
    obtain ⟨q, hq, rfl, hb⟩ := hrel
    by_cases hq2 : q < n
    · obtain ⟨r1, o1, rfl, hr1, hc1⟩ := R1.at_ (by omega)
      obtain ⟨r2, o2, rfl, hr2, hc2⟩ := R2.at_ (by omega)
      obtain ⟨x0, x1, x2⟩ := hc1 q hq2
      obtain ⟨y0, y1, y2⟩ := hc2 q hq2
      have e0 := (hb.cell (p := ⟨r1, o1 + q * 3, none⟩) hr1).trans x0
      have e1 := (hb.cell (p := ⟨r1, o1 + q * 3 + 1, none⟩) hr1).trans x1
      have e2 := (hb.cell (p := ⟨r1, o1 + q * 3 + 2, none⟩) hr1).trans x2
      have f0 := (hb.cell (p := ⟨r2, o2 + q * 3, none⟩) hr2).trans y0
      have f1 := (hb.cell (p := ⟨r2, o2 + q * 3 + 1, none⟩) hr2).trans y1
      have f2 := (hb.cell (p := ⟨r2, o2 + q * 3 + 2, none⟩) hr2).trans y2
      clear hc1 hc2 x0 x1 x2 y0 y1 y2 R1 R2
      generalize l.getD q default = X at *
      have z1 : (q : Int) < n := by omega
      go_upto_region 6 with fail
      go_quiet (fail)
      have hb2 := bdrewN hb nq
      generalize wr.drewN nq = w11 at *
      go_wp2_with fail
      exact ⟨⟨q + 1, by omega, by go_num, hb2⟩, by simp [intOf]; omega⟩
    · have z1 : ¬ (q : Int) < n := by omega
      go_wp2_with fail
      go_ret
      exact ⟨rfl, hb⟩
end Go.Proofs.Ytcbheekfdhklcaa

/- order: the sort's own comparison. -/
import Derived.Test.YtapiehddcdnadaaDoorTopG
namespace Go.Proofs.YtapiehddcdnadaaDoor
open Go.RowKit
set_option linter.unusedVariables false
set_option linter.unusedSimpArgs false

set_option maxRecDepth 100000 in
set_option maxHeartbeats 4000000 in
theorem order_call (a b : It) (w : World) : Calls Tryd.prog 46 #[.agg #[.string a.name, .int .u64 a.many, .int .u64 a.over], .agg #[.string b.name, .int .u64 b.many, .int .u64 b.over]] w fun e w' => e = .returned (.int .i64 (cmpI a b)) ∧ Lays w w' := by
  have h33 := fun W => cmp64 b.many a.many W
  have h40 := fun W => cmpStr a.name b.name W
  rw [← cmpI_eq]
  generalize cmpN b.many a.many = x at *
  generalize cmpS a.name b.name = y at *
  have h39 := fun g W h => or_call g x y W h
  have L2 : ∀ o1 o2, Lays w ((w.alloc o1).alloc o2) := fun o1 o2 => ((Lays.refl w).alloc _).alloc _
  generalize (if x = 0 then y else x) = r at *
  go_enter Tryd.func46, Tryd.ntmps46
  go_wp2_with fail
  have B1 := (Blk.new w 52 #[.string a.name, .int .u64 a.many, .int .u64 a.over]).alloc (.cells #[.string b.name, .int .u64 b.many, .int .u64 b.over] 52)
  have B2 : Blk ((w.alloc (.cells #[.string a.name, .int .u64 a.many, .int .u64 a.over] 52)).alloc (.cells #[.string b.name, .int .u64 b.many, .int .u64 b.over] 52)) (w.heap.size + 1) _ _ := Blk.newAt (by simp)
  have L := L2 (.cells #[.string a.name, .int .u64 a.many, .int .u64 a.over] 52) (.cells #[.string b.name, .int .u64 b.many, .int .u64 b.over] 52)
  generalize ((w.alloc (.cells #[.string a.name, .int .u64 a.many, .int .u64 a.over] 52)).alloc (.cells #[.string b.name, .int .u64 b.many, .int .u64 b.over] 52)) = W at *
  have c0 : W.cell? ⟨w.heap.size, 0, none⟩ = some (.string a.name) := B1.cellAt 0 rfl
  have c1 : W.cell? ⟨w.heap.size, 1, none⟩ = some (.int .u64 a.many) := B1.cellAt 1 rfl
  have d0 : W.cell? ⟨w.heap.size + 1, 0, none⟩ = some (.string b.name) := B2.cellAt 0 rfl
  have d1 : W.cell? ⟨w.heap.size + 1, 1, none⟩ = some (.int .u64 b.many) := B2.cellAt 1 rfl
  have l1 := B1.lt
  have l2 := B2.lt
  clear L2
  go_region_held3 (fun w' => w'.cell? ⟨w.heap.size, 0, none⟩ = some (.string a.name) ∧ w'.cell? ⟨w.heap.size, 1, none⟩ = some (.int .u64 a.many) ∧ w'.cell? ⟨w.heap.size + 1, 0, none⟩ = some (.string b.name) ∧ w'.cell? ⟨w.heap.size + 1, 1, none⟩ = some (.int .u64 b.many)) (first | exact ⟨c0, c1, d0, d1⟩ | exact ⟨(B1.alloc _).cellAt 0 rfl, (B1.alloc _).cellAt 1 rfl, (B2.alloc _).cellAt 0 rfl, (B2.alloc _).cellAt 1 rfl⟩)
    (first
      | (go_at_call 53; refine (h33 _).mono ?_; rintro e w1 ⟨rfl, rfl⟩)
      | (go_at_call 54; refine (h40 _).mono ?_; rintro e w1 ⟨rfl, rfl⟩)
      | (go_at_call 52; refine (h39 _ _ ?_).mono ?_; exact (Blk.new _ _ _).drew; rintro e w1 ⟨rfl, rfl⟩)
      | (go_at_call 52; refine (h39 _ _ ?_).mono ?_; exact (Blk.new _ _ _); rintro e w1 ⟨rfl, rfl⟩))
  all_goals
    go_wp2_with fail
    go_ret
    exact ⟨rfl, by first | exact (L.alloc _).drew | exact (L.drew).alloc _⟩
end Go.Proofs.YtapiehddcdnadaaDoor

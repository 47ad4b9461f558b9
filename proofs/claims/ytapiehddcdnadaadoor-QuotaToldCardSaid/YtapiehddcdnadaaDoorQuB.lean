/- Admit of a quota leaves what is not the quota's. -/
import Derived.Test.YtapiehddcdnadaaDoorQuE
import Derived.Deep.CutBlock
import Derived.Deep.CutRange
namespace Go.Proofs.YtapiehddcdnadaaDoor
open Go.RowKit
set_option linter.unusedVariables false
set_option linter.unusedSimpArgs false

/-- Blocks of other kinds than a quota's are as they were. -/
def FarQ (w w' : World) : Prop := w.heap.size ≤ w'.heap.size ∧ ∀ h t cs, Blk w h t cs → t ≠ 64 → t ≠ 81 → t ≠ 83 → t ≠ 52 → Blk w' h t cs
section
variable {w w1 w2 : World}
theorem FarQ.refl (w : World) : FarQ w w := ⟨Nat.le_refl _, fun _ _ _ h _ _ _ _ => h⟩
theorem FarQ.below (h : FarQ w w1) (b : Below w1.heap.size w1 w2) : FarQ w w2 := ⟨Nat.le_trans h.1 b.size, fun g t cs hB a1 a2 a3 a4 => Blk.step b (h.2 g t cs hB a1 a2 a3 a4)⟩
theorem FarQ.grown (h : FarQ w w1) {b : Nat} {t' : TypeId} {cs' : Array Value} (hb : Blk w1 b t' cs') (ht : t' = 64 ∨ t' = 81 ∨ t' = 83 ∨ t' = 52) (hG : w1.grownBy w2 (some b)) : FarQ w w2 :=
  ⟨Nat.le_trans h.1 hG.size, fun g t cs hB a1 a2 a3 a4 => by
    have h1 := h.2 g t cs hB a1 a2 a3 a4
    refine Blk.grown hG h1 (fun e => ?_)
    injection e with e
    refine h1.ne_ hb ?_ e
    rcases ht with rfl | rfl | rfl | rfl
    · exact a1
    · exact a2
    · exact a3
    · exact a4⟩
theorem FarQ.top {g : Nat} (h : FarQ w w1) (F : Far g w1 w2) (hB : ∃ cs, Blk w1 g 83 cs) : FarQ w w2 :=
  ⟨Nat.le_trans h.1 F.1, fun x t cs hb a1 a2 a3 a4 => by
    obtain ⟨cs', hB⟩ := hB
    have h1 := h.2 x t cs hb a1 a2 a3 a4
    exact F.2 x t cs h1 (h1.ne_ hB a3) a4⟩
end
set_option maxRecDepth 100000 in
set_option maxHeartbeats 2000000 in
theorem admit_far {W w : World} {g gn gb gt : Nat} {q : QS} (hT : Tab W) (key metric : ByteArray) (known full : Bool) (hk : key.size ≤ 9223372036854775806) (hm : metric.size ≤ 64) (h : Qt W g gn gb gt q w) :
    Calls Tryd.prog 11 #[.pointer (some ⟨g, 0, none⟩), .string key, .string metric, .bool known, .bool full] w fun e w' => e = .returned (.int .i64 (admitE q key known full)) ∧ Qt W g gn gb gt (admitQ q key metric known full) w' ∧ FarQ w w' := by
  have hms : (metric.size : Int) ≤ 64 := by omega
  have HT := Lib.hid hT
  have HE : Hid (admitE q key known full = decideQ (seeQ (addQ q key)).closed known full) := Lib.hid rfl
  have HA : Hid (admitQ q key metric known full = if admitE q key known full = 0 then seeQ (addQ q key) else topQ (seeQ (addQ q key)) metric) := Lib.hid rfl
  generalize admitQ q key metric known full = Q at *
  generalize admitE q key known full = E at *
  have k1 := h.c1
  have kl := h.blk.lt
  have H := h
  clear h hT
  go_enter Tryd.func11, Tryd.ntmps11
  go_upto_region 3 with fail
  have A := H.drew
  have F := (FarQ.refl w).below (bdrew (Below.refl _ _))
  go_region_held3 (fun w' => w'.cell? ⟨g, 1, none⟩ = some (.pointer (some ⟨gn, 0, none⟩))) (exact A.c1)
    (first
      | (go_at_call 23; ((with_reducible refine (sum_call key _ hk).mono ?_); rintro e wA ⟨rfl, bA⟩; replace A := A.step bA; replace F := F.below bA; clear bA))
      | (go_at_call 22; ((with_reducible refine (Add_any gn q.b q.rn (sumN key) _ (sumI_nat key).2 A.now (A.tab HT.out)).mono ?_); rintro e wA ⟨rfl, hS, hG⟩; have A2 := A.now' hS hG; have F2 := F.grown A.now.blk (.inr (.inl rfl)) hG; clear hS hG A F; have A := A2; have F := F2; clear A2 F2)))
  go_wp2_with fail
  have e1 : wA = wA := rfl
  clear e1
  generalize hq1 : ({ q with rn := addR q.b q.rn (sumN key) } : QS) = q1 at *
  have HQ1 : Hid (addQ q key = q1) := Lib.hid hq1
  clear hq1 H k1 kl
  rw [HQ1.out] at HE HA
  have HS : Hid (seeQ q1 = { q1 with closed := q1.closed || decide (q1.high ≤ manyQ q1) }) := Lib.hid rfl
  generalize seeQ q1 = q2 at *
  have c3 := A.c3
  have c4 := A.c4
  have c5 := A.c5
  have kl := A.blk.lt
  have kf := A.blk.frozen
  have A0 := A.drew
  have F0 := F.below (bdrew (Below.refl _ _))
  clear A F
  go_region_with (first
    | (go_at_call 12; ((with_reducible refine (many_call A0).mono ?_); rintro eB wB ⟨rfl, bB⟩; have A1 := A0.step bB; have F1 := F0.below bB; clear bB; have d3 := A1.c3; have d4 := A1.c4; have d5 := A1.c5; have dl := A1.blk.lt; have df := A1.blk.frozen))
    | (go_at_call 24; ((with_reducible refine (gsee_any q1.closed q1.low q1.high (manyQ q1) _).mono ?_); rintro eC wC ⟨rfl, bC⟩; have A2 := A1.step bC; have F2 := F1.below bC; clear bC; have m3 := A2.c3; have m4 := A2.c4; have m5 := A2.c5; have ml := A2.blk.lt; have mf := A2.blk.frozen)))
  all_goals
    have A3 : Qt W g gn gb gt q2 (((wC.setCell ⟨g, 3, none⟩ (.bool (q1.closed || decide (q1.high ≤ manyQ q1)))).setCell ⟨g, 4, none⟩ (.int .u64 q1.low)).setCell ⟨g, 5, none⟩ (.int .u64 q1.high)) := by
      rw [HS.out]
      exact A2.gate' _ q1.low q1.high A2.low0
    have F3 : FarQ w (((wC.setCell ⟨g, 3, none⟩ (.bool (q1.closed || decide (q1.high ≤ manyQ q1)))).setCell ⟨g, 4, none⟩ (.int .u64 q1.low)).setCell ⟨g, 5, none⟩ (.int .u64 q1.high)) := F2.grown A2.blk (.inl rfl) (by
      refine only_setCell ?_ (.inl rfl) _
      refine only_setCell ?_ (.inl rfl) _
      refine only_setCell ?_ (.inl rfl) _
      exact only_refl _ _)
    generalize (((wC.setCell ⟨g, 3, none⟩ (.bool (q1.closed || decide (q1.high ≤ manyQ q1)))).setCell ⟨g, 4, none⟩ (.int .u64 q1.low)).setCell ⟨g, 5, none⟩ (.int .u64 q1.high)) = w5 at *
    clear c3 c4 c5 kl kf d3 d4 d5 dl df m3 m4 m5 ml mf A0 A1 A2 F0 F1 F2
    have HD := decide_call known full A3
    rw [← HE.out] at HD
    have hE3 : E = 0 ∨ E = 10 ∨ E = 4 := by rw [HE.out]; exact decideQ_cases _ _ _
    have HD2 := Lib.hid HD
    clear HD HE
    rcases hE3 with h | h | h
    · subst h
      have HA2 : Hid (Q = q2) := Lib.hid (by rw [HA.out, if_pos rfl])
      clear HA
      go_wp2_with fail
      refine HD2.out.mono ?_
      rintro e w6 ⟨rfl, rfl⟩
      go_wp2_with fail
      go_ret
      exact ⟨rfl, by rw [HA2.out]; exact A3, F3⟩
    all_goals
      subst h
      have HA2 : Hid (Q = topQ q2 metric) := Lib.hid (by rw [HA.out, if_neg (by decide)])
      clear HA
      go_wp2_with fail
      refine HD2.out.mono ?_
      rintro e w6 ⟨rfl, rfl⟩
      have c6 := A3.c6
      have kl := A3.blk.lt
      go_wp2_with fail
      refine (tm_add metric 1 (by omega) (by omega) A3.tm).mono ?_
      rintro e w7 ⟨rfl, T7, F7⟩
      go_wp2_with fail
      go_ret
      exact ⟨rfl, by rw [HA2.out]; exact A3.top' T7 F7, F3.top F7 A3.tm.blk⟩
theorem q_admit_far {W w : World} {g : Nat} {q : QS} (hT : Tab W) (key metric : ByteArray) (known full : Bool) (hk : key.size ≤ 9223372036854775806) (hm : metric.size ≤ 64) (h : QQ W g q w) :
    Calls Tryd.prog 11 #[.pointer (some ⟨g, 0, none⟩), .string key, .string metric, .bool known, .bool full] w fun e w' => e = .returned (.int .i64 (admitE q key known full)) ∧ QQ W g (admitQ q key metric known full) w' ∧ FarQ w w' := by
  obtain ⟨a, b, c, h⟩ := h
  refine (admit_far hT key metric known full hk hm h).mono ?_
  rintro e w' ⟨rfl, h', hF⟩
  exact ⟨rfl, ⟨a, b, c, h'⟩, hF⟩
end Go.Proofs.YtapiehddcdnadaaDoor

/- Admit of a quota. -/
import Derived.Test.YtapiehddcdnadaaDoorQuR
import Derived.Deep.CutBlock
import Derived.Deep.CutRange
namespace Go.Proofs.YtapiehddcdnadaaDoor
open Go.RowKit
set_option linter.unusedVariables false
set_option linter.unusedSimpArgs false

section
variable {W w w' : World} {base g gn gb gt : Nat} {q : QS}
theorem TM.grown {room seen : Nat} {l : List It} (h : TM W base g room seen l w) {b : Nat} {t : TypeId} {cs : Array Value} (hB : Blk w b t cs) (hg : b ≠ g) (ht : t ≠ 52) (hb : base ≤ b) (hG : w.grownBy w' (some b)) : TM W base g room seen l w' := by
  have hbs := h.bs
  obtain ⟨A, n, c, T, I, B, hW⟩ := h
  exact ⟨A, n, c, ⟨Blk.grown hG T.blk (by intro e; injection e with e; exact hg e.symm), ⟨T.its.own.kept hG (.inr (fun e => T.its.far hB ht e.symm))⟩, T.g0, T.rm, T.ln, T.sn, T.bd⟩, I, B.grown hG hbs (fun k hk => by injection hk with hk; omega), hW⟩
theorem TM.blk {room seen : Nat} {l : List It} (h : TM W base g room seen l w) : ∃ cs, Blk w g 83 cs := by
  obtain ⟨A, n, c, T, I, B, hW⟩ := h
  exact ⟨_, T.blk⟩
theorem Qt.gt_ne (h : Qt W g gn gb gt q w) : g ≠ gt ∧ gn ≠ gt ∧ gb ≠ gt := by
  obtain ⟨cs, hB⟩ := h.tm.blk
  exact ⟨h.blk.ne_ hB (by decide), h.now.blk.ne_ hB (by decide), h.bef.blk.ne_ hB (by decide)⟩
/-- The new sketch alone has turned. -/
theorem Qt.now' (h : Qt W g gn gb gt q w) {r : List Int} (hS : Sk w' gn q.b r) (hG : w.grownBy w' (some gn)) : Qt W g gn gb gt { q with rn := r } w' :=
  ⟨Blk.grown hG h.blk (by intro e; injection e with e; exact h.gn_ne.1 e), hS, h.bef.grown hG (by intro e; injection e with e; exact h.ne e.symm), h.ne, h.tm.grown h.now.blk h.gt_ne.2.1 (by decide) h.gn0 hG, h.g0, h.gn0, h.gb0, h.win0, h.low0⟩
theorem Qt.bef' (h : Qt W g gn gb gt q w) {r : List Int} (hS : Sk w' gb q.b r) (hG : w.grownBy w' (some gb)) : Qt W g gn gb gt { q with rb := r } w' :=
  ⟨Blk.grown hG h.blk (by intro e; injection e with e; exact h.gn_ne.2 e), h.now.grown hG (by intro e; injection e with e; exact h.ne e), hS, h.ne, h.tm.grown h.bef.blk h.gt_ne.2.2 (by decide) h.gb0 hG, h.g0, h.gn0, h.gb0, h.win0, h.low0⟩
/-- Cells of the quota's own block are set. -/
theorem Qt.own' (h : Qt W g gn gb gt q w) {q' : QS} (hG : w.grownBy w' (some g)) (hB : Blk w' g 64 (quCells q' gn gb gt)) (e1 : q'.b = q.b) (e2 : q'.rn = q.rn) (e3 : q'.rb = q.rb) (e4 : q'.room = q.room) (e5 : q'.seen = q.seen) (e6 : q'.l = q.l) (e7 : 0 ≤ q'.win ∧ q'.win ≤ 9223372036854775807) (e8 : 0 ≤ q'.low) : Qt W g gn gb gt q' w' := by
  refine ⟨hB, ?_, ?_, h.ne, ?_, h.g0, h.gn0, h.gb0, e7, e8⟩
  · rw [e1, e2]; exact h.now.grown hG (by intro e; injection e with e; exact h.gn_ne.1 e.symm)
  · rw [e1, e3]; exact h.bef.grown hG (by intro e; injection e with e; exact h.gn_ne.2 e.symm)
  · rw [e4, e5, e6]; exact h.tm.grown h.blk h.gt_ne.1 (by decide) h.g0 hG
/-- The top alone has turned. -/
theorem Qt.top' (h : Qt W g gn gb gt q w) {seen : Nat} {l : List It} (hT : TM W W.heap.size gt q.room seen l w') (hF : Far gt w w') : Qt W g gn gb gt { q with seen := seen, l := l } w' :=
  ⟨hF.2 _ _ _ h.blk h.gt_ne.1 (by decide), ⟨hF.2 _ _ _ h.now.blk h.gt_ne.2.1 (by decide), h.now.lo, h.now.hi, h.now.len, h.now.wf⟩, ⟨hF.2 _ _ _ h.bef.blk h.gt_ne.2.2 (by decide), h.bef.lo, h.bef.hi, h.bef.len, h.bef.wf⟩, h.ne, hT, h.g0, h.gn0, h.gb0, h.win0, h.low0⟩
theorem Qt.gate' (h : Qt W g gn gb gt q w) (c : Bool) (lo hi : Int) (hlo : 0 ≤ lo) : Qt W g gn gb gt { q with closed := c, low := lo, high := hi } (((w.setCell ⟨g, 3, none⟩ (.bool c)).setCell ⟨g, 4, none⟩ (.int .u64 lo)).setCell ⟨g, 5, none⟩ (.int .u64 hi)) := by
  have hG : w.grownBy (((w.setCell ⟨g, 3, none⟩ (.bool c)).setCell ⟨g, 4, none⟩ (.int .u64 lo)).setCell ⟨g, 5, none⟩ (.int .u64 hi)) (some g) := by
    refine only_setCell ?_ (.inl rfl) _
    refine only_setCell ?_ (.inl rfl) _
    refine only_setCell ?_ (.inl rfl) _
    exact only_refl _ _
  have hB := ((h.blk.put 3 (.bool c)).put 4 (.int .u64 lo)).put 5 (.int .u64 hi)
  exact h.own' (q' := { q with closed := c, low := lo, high := hi }) hG hB rfl rfl rfl rfl rfl rfl h.win0 hlo
theorem Qt.drew (h : Qt W g gn gb gt q w) : Qt W g gn gb gt q w.drew := h.step (bdrew (Below.refl _ _))
end
def addQ (q : QS) (key : ByteArray) : QS := { q with rn := addR q.b q.rn (sumN key) }
def seeQ (q : QS) : QS := { q with closed := q.closed || decide (q.high ≤ manyQ q) }
def topQ (q : QS) (metric : ByteArray) : QS := { q with seen := stepS q.seen metric 1, l := stepT q.room q.seen q.l metric 1 }
def admitE (q : QS) (key : ByteArray) (known full : Bool) : Int := decideQ (seeQ (addQ q key)).closed known full
def admitQ (q : QS) (key metric : ByteArray) (known full : Bool) : QS := if admitE q key known full = 0 then seeQ (addQ q key) else topQ (seeQ (addQ q key)) metric
theorem decideQ_cases (c k f : Bool) : decideQ c k f = 0 ∨ decideQ c k f = 10 ∨ decideQ c k f = 4 := by cases c <;> cases k <;> cases f <;> decide

theorem fldG_0 (c : Bool) (lo hi : Int) (w : World) : (Instr.field 59 (.agg #[.bool c, .int .u64 lo, .int .u64 hi]) 0).run Tryd.prog w = .ok (.bool c) w := by kernel_rfl
set_option maxRecDepth 100000 in
set_option maxHeartbeats 2000000 in
theorem admit_call {W w : World} {g gn gb gt : Nat} {q : QS} (hT : Tab W) (key metric : ByteArray) (known full : Bool) (hk : key.size ≤ 9223372036854775806) (hm : metric.size ≤ 64) (h : Qt W g gn gb gt q w) :
    Calls Tryd.prog 11 #[.pointer (some ⟨g, 0, none⟩), .string key, .string metric, .bool known, .bool full] w fun e w' => e = .returned (.int .i64 (admitE q key known full)) ∧ Qt W g gn gb gt (admitQ q key metric known full) w' := by
  have hms : (metric.size : Int) ≤ 64 := by omega
  have HT := Lib.hid hT
  have HE : Hid (admitE q key known full = decideQ (seeQ (addQ q key)).closed known full) := Lib.hid rfl
  have HA : Hid (admitQ q key metric known full = if admitE q key known full = 0 then seeQ (addQ q key) else topQ (seeQ (addQ q key)) metric) := Lib.hid rfl
  generalize admitQ q key metric known full = Q at *
  generalize admitE q key known full = E at *
  have k1 := h.c1
  have kl := h.blk.lt
  have H := h
  clear h hT
  go_enter Tryd.func11, Tryd.ntmps11
  go_upto_region 3 with fail
  have A := H.drew
  go_region_held3 (fun w' => w'.cell? ⟨g, 1, none⟩ = some (.pointer (some ⟨gn, 0, none⟩))) (exact A.c1)
    (first
      | (go_at_call 23; ((with_reducible refine (sum_call key _ hk).mono ?_); rintro e wA ⟨rfl, bA⟩; replace A := A.step bA; clear bA))
      | (go_at_call 22; ((with_reducible refine (Add_any gn q.b q.rn (sumN key) _ (sumI_nat key).2 A.now (A.tab HT.out)).mono ?_); rintro e wA ⟨rfl, hS, hG⟩; have A2 := A.now' hS hG; clear hS hG A; have A := A2; clear A2)))
  go_wp2_with fail
  have e1 : wA = wA := rfl
  clear e1
  generalize hq1 : ({ q with rn := addR q.b q.rn (sumN key) } : QS) = q1 at *
  have HQ1 : Hid (addQ q key = q1) := Lib.hid hq1
  clear hq1 H k1 kl
  rw [HQ1.out] at HE HA
  have HS : Hid (seeQ q1 = { q1 with closed := q1.closed || decide (q1.high ≤ manyQ q1) }) := Lib.hid rfl
  generalize seeQ q1 = q2 at *
  have c3 := A.c3
  have c4 := A.c4
  have c5 := A.c5
  have kl := A.blk.lt
  have kf := A.blk.frozen
  have A0 := A.drew
  clear A
  go_region_with (first
    | (go_at_call 12; ((with_reducible refine (many_call A0).mono ?_); rintro eB wB ⟨rfl, bB⟩; have A1 := A0.step bB; clear bB; have d3 := A1.c3; have d4 := A1.c4; have d5 := A1.c5; have dl := A1.blk.lt; have df := A1.blk.frozen))
    | (go_at_call 24; ((with_reducible refine (gsee_any q1.closed q1.low q1.high (manyQ q1) _).mono ?_); rintro eC wC ⟨rfl, bC⟩; have A2 := A1.step bC; clear bC; have m3 := A2.c3; have m4 := A2.c4; have m5 := A2.c5; have ml := A2.blk.lt; have mf := A2.blk.frozen)))
  all_goals
    have A3 : Qt W g gn gb gt q2 (((wC.setCell ⟨g, 3, none⟩ (.bool (q1.closed || decide (q1.high ≤ manyQ q1)))).setCell ⟨g, 4, none⟩ (.int .u64 q1.low)).setCell ⟨g, 5, none⟩ (.int .u64 q1.high)) := by
      rw [HS.out]
      exact A2.gate' _ q1.low q1.high A2.low0
    generalize (((wC.setCell ⟨g, 3, none⟩ (.bool (q1.closed || decide (q1.high ≤ manyQ q1)))).setCell ⟨g, 4, none⟩ (.int .u64 q1.low)).setCell ⟨g, 5, none⟩ (.int .u64 q1.high)) = w5 at *
    clear c3 c4 c5 kl kf d3 d4 d5 dl df m3 m4 m5 ml mf A0 A1 A2
    have HD := decide_call known full A3
    rw [← HE.out] at HD
    have hE3 : E = 0 ∨ E = 10 ∨ E = 4 := by rw [HE.out]; exact decideQ_cases _ _ _
    have HD2 := Lib.hid HD
    clear HD HE
    rcases hE3 with h | h | h
    · subst h
      have HA2 : Hid (Q = q2) := Lib.hid (by rw [HA.out, if_pos rfl])
      clear HA
      go_wp2_with fail
      refine HD2.out.mono ?_
      rintro e w6 ⟨rfl, rfl⟩
      go_wp2_with fail
      go_ret
      exact ⟨rfl, by rw [HA2.out]; exact A3⟩
    all_goals
      subst h
      have HA2 : Hid (Q = topQ q2 metric) := Lib.hid (by rw [HA.out, if_neg (by decide)])
      clear HA
      go_wp2_with fail
      refine HD2.out.mono ?_
      rintro e w6 ⟨rfl, rfl⟩
      have c6 := A3.c6
      have kl := A3.blk.lt
      go_wp2_with fail
      refine (tm_add metric 1 (by omega) (by omega) A3.tm).mono ?_
      rintro e w7 ⟨rfl, T7, F7⟩
      go_wp2_with fail
      go_ret
      exact ⟨rfl, by rw [HA2.out]; exact A3.top' T7 F7⟩
theorem admit_long {W w : World} {g gn gb gt : Nat} {q : QS} (key metric : ByteArray) (known full : Bool) (hm : 64 < metric.size) (h : Qt W g gn gb gt q w) :
    Calls Tryd.prog 11 #[.pointer (some ⟨g, 0, none⟩), .string key, .string metric, .bool known, .bool full] w fun e w' => e = .returned (.int .i64 1) ∧ w = w' := by
  have hms : (64 : Int) < (metric.size : Int) := by omega
  clear h hm
  go_enter Tryd.func11, Tryd.ntmps11
  go_wp2_with fail
  go_ret
  exact ⟨rfl, rfl⟩
end Go.Proofs.YtapiehddcdnadaaDoor

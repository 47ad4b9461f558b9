/- The quota's contracts without pointers; plain facts of the examples. Admit of a quota leaves what is not the quota's. A quota of the program; what is not a quota's is as it was. The chapter's examples. -/
import Derived.Test.YtapiehddcdnadaaGreatDoorQuL
import Derived.Test.YtapiehddcdnadaaGreatDoorM14
import Derived.Test.YtapiehddcdnadaaGreatDoorQuV
import Derived.Test.YtapiehddcdnadaaGreatDoorM5
import Derived.Deep.CutBlock
import Derived.Deep.CutRange
import Derived.Deep.Onto
namespace Go.Proofs.YtapiehddcdnadaaGreatDoor
open Go.RowKit
set_option linter.unusedVariables false
set_option linter.unusedSimpArgs false

section
variable {W w : World} {g : Nat} {q : QS}
theorem q_admit (hT : Tab W) (key metric : ByteArray) (known full : Bool) (hk : key.size ≤ 9223372036854775806) (hm : metric.size ≤ 64) (h : QQ W g q w) :
    Calls Tryz.prog 22 #[.pointer (some ⟨g, 0, none⟩), .string key, .string metric, .bool known, .bool full] w fun e w' => e = .returned (.int .i64 (admitE q key known full)) ∧ QQ W g (admitQ q key metric known full) w' := by
  obtain ⟨a, b, c, h⟩ := h
  refine (admit_call hT key metric known full hk hm h).mono ?_
  rintro e w' ⟨rfl, h'⟩
  exact ⟨rfl, a, b, c, h'⟩
theorem q_many (h : QQ W g q w) : Calls Tryz.prog 20 #[.pointer (some ⟨g, 0, none⟩)] w fun e w' => e = .returned (.int .u64 (manyQ q)) ∧ Below w.heap.size w w' := by
  obtain ⟨a, b, c, h⟩ := h
  exact many_call h
theorem q_closed (h : QQ W g q w) : Calls Tryz.prog 24 #[.pointer (some ⟨g, 0, none⟩)] w fun e w' => e = .returned (.bool q.closed) ∧ w = w' := by
  obtain ⟨a, b, c, h⟩ := h
  exact closed_call h
theorem q_window (h : QQ W g q w) : Calls Tryz.prog 10 #[.pointer (some ⟨g, 0, none⟩)] w fun e w' => e = .returned (.int .i64 q.win) ∧ w = w' := by
  obtain ⟨a, b, c, h⟩ := h
  exact window_call h
theorem q_state (h : QQ W g q w) : Calls Tryz.prog 16 #[.pointer (some ⟨g, 0, none⟩)] w (StatePost w q) := by
  obtain ⟨a, b, c, h⟩ := h
  exact state_call h
theorem q_roll_no (p : PolN) (a : Option Addr) (n c : Nat) (xs : List Int) (window : Int) (h : QQ W g q w) (hx : Ints .i64 w a n xs) (hn : n ≤ 9223372036854775807) (hr : rightP p xs = false ∨ window ≤ q.win) :
    Calls Tryz.prog 11 #[.pointer (some ⟨g, 0, none⟩), .int .i64 window, polV p a n c] w fun e w' => e = .returned (.int .i64 0) ∧ Below w.heap.size w w' := by
  obtain ⟨a, b, c, h⟩ := h
  exact roll_no p _ n _ xs window h hx hn hr
theorem q_roll_next (p : PolN) (a : Option Addr) (n c : Nat) (xs : List Int) (window : Int) (h : QQ W g q w) (hx : Ints .i64 w a n xs) (hn : n ≤ 9223372036854775807) (hr : rightP p xs = true) (hw : window = q.win + 1) (hw2 : window ≤ 9223372036854775807) :
    Calls Tryz.prog 11 #[.pointer (some ⟨g, 0, none⟩), .int .i64 window, polV p a n c] w fun e w' => e = .returned (.int .i64 1) ∧ QQ W g (endQ (nextQ q window) p) w' := by
  obtain ⟨a, b, c, h⟩ := h
  exact roll_next p _ n _ xs window h hx hn hr hw hw2
theorem q_roll_later (p : PolN) (a : Option Addr) (n c : Nat) (xs : List Int) (window : Int) (h : QQ W g q w) (hx : Ints .i64 w a n xs) (hn : n ≤ 9223372036854775807) (hr : rightP p xs = true) (hw : q.win + 1 < window) (hw2 : window ≤ 9223372036854775807) :
    Calls Tryz.prog 11 #[.pointer (some ⟨g, 0, none⟩), .int .i64 window, polV p a n c] w fun e w' => e = .returned (.int .i64 2) ∧ QQ W g (endQ (laterQ q window) p) w' := by
  obtain ⟨a, b, c, h⟩ := h
  exact roll_later p _ n _ xs window h hx hn hr hw hw2
end

theorem base_call (w : World) : Calls Tryz.prog 26 #[] w fun e w' => ∃ g, e = .returned (.agg #[.int .i64 64, .int .i64 32, .int .i64 64, .int .i64 8, .int .i64 6, .int .i64 2, .int .i64 2, .int .i64 60, .int .i64 30, .int .i64 5, .slice (some ⟨g, 0, none⟩) 2 2]) ∧ Blk w' g 2 #[.int .i64 10, .int .i64 60] ∧ Below w.heap.size w w' := by
  go_enter Tryz.func26, Tryz.ntmps26
  go_wp2_with fail
  refine bodyPost_ret (v := .agg #[.int .i64 64, .int .i64 32, .int .i64 64, .int .i64 8, .int .i64 6, .int .i64 2, .int .i64 2, .int .i64 60, .int .i64 30, .int .i64 5, .slice (some ⟨w.heap.size + 1, 0, none⟩) 2 2]) (by simp [results, Tryz.results26, go_sem]) rfl ?_
  exact ⟨w.heap.size + 1, rfl, Blk.newAt (by simp), balloc (balloc (Below.refl _ _) _) _⟩
theorem zip_comm (r s : List Int) : List.zipWith max r s = List.zipWith max s r := by
  rw [List.zipWith_comm]
  congr 1
  funext a b
  exact Int.max_comm b a
theorem zerosN_eq (b : Nat) : zerosN b = zeros b := rfl
theorem many_now {q : QS} (h : q.rn.length = 2 ^ q.b) (h0 : ∀ j, 0 ≤ q.rn.getD j 0) (hb : q.rb = zerosN q.b) : manyQ q = estI q.b q.rn := by
  unfold manyQ
  rw [hb, zerosN_eq, zip_comm (zeros q.b) q.rn, zip_zeros _ _ h h0, zip_zeros _ _ h h0]
theorem one_gen (b : Nat) (h : Nat) (hbc : b = 4 ∨ b = 5 ∨ b = 6 ∨ b = 7 ∨ b = 8 ∨ b = 9 ∨ b = 10) : estI b (addR b (zeros b) h) = 1 ∧ (addR b (zeros b) h).length = 2 ^ b ∧ ∀ j, 0 ≤ (addR b (zeros b) h).getD j 0 := by
  have e : feed b (zeros b) [(h : Int)] = addR b (zeros b) h := by
    rw [feed_cons, Int.toNat_natCast]
    unfold feed
    rfl
  refine ⟨?_, ?_, ?_⟩
  · rw [← e]; exact feed_one b (h : Int) hbc
  · rw [addR_len, zeros_len]
  · intro j
    rw [← e]
    exact feed_nonneg b _ _ (zeros_len _) (fun j => by rw [zeros_get]; exact Int.le_refl _) j
theorem one_many {q : QS} (hbc : q.b = 4 ∨ q.b = 5 ∨ q.b = 6 ∨ q.b = 7 ∨ q.b = 8 ∨ q.b = 9 ∨ q.b = 10) (key : ByteArray) (hn : q.rn = zerosN q.b) (hb : q.rb = zerosN q.b) : manyQ (addQ q key) = 1 := by
  obtain ⟨h1, h2, h3⟩ := one_gen q.b (sumN key) hbc
  unfold addQ
  rw [hn, zerosN_eq]
  generalize addR q.b (zeros q.b) (sumN key) = r at *
  rw [many_now (q := { q with rn := r }) h2 h3 hb]
  exact h1
def P0 : PolN := ⟨64, 0, 1, 8, 6, 2, 2, 60, 30, 5⟩
theorem P0_right : rightP P0 [10, 60] = true := by decide
def kB : ByteArray := ⟨#[107]⟩
def jB : ByteArray := ⟨#[106]⟩
def mB : ByteArray := ⟨#[109]⟩
theorem ex_see (win : Int) : (seeQ (addQ (newQ P0 win) kB)).closed = true := by
  have h := one_many (q := newQ P0 win) (.inr (.inr (.inl rfl))) kB rfl rfl
  unfold seeQ
  simp only [h]
  rfl
theorem ex_a : admitE (newQ P0 3) kB true false = 0 := rfl
def exQ1 : QS := admitQ (newQ P0 3) kB mB true false
theorem exQ1_eq : exQ1 = seeQ (addQ (newQ P0 3) kB) := rfl
theorem ex_b : admitE exQ1 jB false false = 10 := by
  have h : (seeQ (addQ exQ1 jB)).closed = true := by
    have e : (seeQ (addQ exQ1 jB)).closed = (exQ1.closed || decide ((addQ exQ1 jB).high ≤ manyQ (addQ exQ1 jB))) := rfl
    rw [e, exQ1_eq, ex_see, Bool.true_or]
  unfold admitE
  rw [h]
  rfl
def exQ2 : QS := admitQ exQ1 jB mB false false
theorem exQ2_eq : exQ2 = topQ (seeQ (addQ exQ1 jB)) mB := by
  unfold exQ2 admitQ
  rw [ex_b, if_neg (by decide)]
theorem exQ2_win : exQ2.win = 3 := by rw [exQ2_eq]; rfl
theorem ex_d : endQ (laterQ exQ2 5) P0 = newQ P0 5 := by
  rw [endQ_eq]
  · have hl : exQ2.low = 0 := by rw [exQ2_eq]; rfl
    have hb : exQ2.b = 6 := by rw [exQ2_eq]; rfl
    unfold laterQ newQ
    simp only [hl, hb]
    simp
    exact ⟨rfl, rfl⟩
  · show exQ2.b = _
    rw [exQ2_eq]; rfl
theorem ex_g : admitE (newQ P0 5) kB false true = 10 := by
  unfold admitE
  rw [ex_see]
  rfl
def exQ4 : QS := admitQ (newQ P0 5) kB mB false true
theorem exQ4_eq : exQ4 = topQ (seeQ (addQ (newQ P0 5) kB)) mB := by
  unfold exQ4 admitQ
  rw [ex_g, if_neg (by decide)]
theorem exQ4_facts : exQ4.seen = 1 ∧ exQ4.l = [⟨mB, 1, 0⟩] ∧ exQ4.win = 5 ∧ exQ4.closed = true ∧ manyQ exQ4 = 1 := by
  rw [exQ4_eq]
  exact ⟨rfl, rfl, rfl, ex_see 5, one_many (q := newQ P0 5) (.inr (.inr (.inl rfl))) kB rfl rfl⟩
theorem told_one {x : It} {s : List It} (h : Told [x] s) : s = [x] := List.perm_singleton.1 h.perm
end Go.Proofs.YtapiehddcdnadaaGreatDoor
namespace Go.Proofs.YtapiehddcdnadaaGreatDoor
open Go.RowKit
set_option linter.unusedVariables false
set_option linter.unusedSimpArgs false

/-- Blocks of other kinds than a quota's are as they were. -/
def FarQ (w w' : World) : Prop := w.heap.size ≤ w'.heap.size ∧ ∀ h t cs, Blk w h t cs → t ≠ 84 → t ≠ 120 → t ≠ 122 → t ≠ 75 → Blk w' h t cs
section
variable {w w1 w2 : World}
theorem FarQ.refl (w : World) : FarQ w w := ⟨Nat.le_refl _, fun _ _ _ h _ _ _ _ => h⟩
theorem FarQ.below (h : FarQ w w1) (b : Below w1.heap.size w1 w2) : FarQ w w2 := ⟨Nat.le_trans h.1 b.size, fun g t cs hB a1 a2 a3 a4 => Blk.step b (h.2 g t cs hB a1 a2 a3 a4)⟩
theorem FarQ.grown (h : FarQ w w1) {b : Nat} {t' : TypeId} {cs' : Array Value} (hb : Blk w1 b t' cs') (ht : t' = 84 ∨ t' = 120 ∨ t' = 122 ∨ t' = 75) (hG : w1.grownBy w2 (some b)) : FarQ w w2 :=
  ⟨Nat.le_trans h.1 hG.size, fun g t cs hB a1 a2 a3 a4 => by
    have h1 := h.2 g t cs hB a1 a2 a3 a4
    refine Blk.grown hG h1 (fun e => ?_)
    injection e with e
    refine h1.ne_ hb ?_ e
    rcases ht with rfl | rfl | rfl | rfl
    · exact a1
    · exact a2
    · exact a3
    · exact a4⟩
theorem FarQ.top {g : Nat} (h : FarQ w w1) (F : Far g w1 w2) (hB : ∃ cs, Blk w1 g 122 cs) : FarQ w w2 :=
  ⟨Nat.le_trans h.1 F.1, fun x t cs hb a1 a2 a3 a4 => by
    obtain ⟨cs', hB⟩ := hB
    have h1 := h.2 x t cs hb a1 a2 a3 a4
    exact F.2 x t cs h1 (h1.ne_ hB a3) a4⟩
end
set_option maxRecDepth 100000 in
set_option maxHeartbeats 2000000 in
theorem admit_far {W w : World} {g gn gb gt : Nat} {q : QS} (hT : Tab W) (key metric : ByteArray) (known full : Bool) (hk : key.size ≤ 9223372036854775806) (hm : metric.size ≤ 64) (h : Qt W g gn gb gt q w) :
    Calls Tryz.prog 22 #[.pointer (some ⟨g, 0, none⟩), .string key, .string metric, .bool known, .bool full] w fun e w' => e = .returned (.int .i64 (admitE q key known full)) ∧ Qt W g gn gb gt (admitQ q key metric known full) w' ∧ FarQ w w' := by
  have hms : (metric.size : Int) ≤ 64 := by omega
  have HT := Lib.hid hT
  have HE : Hid (admitE q key known full = decideQ (seeQ (addQ q key)).closed known full) := Lib.hid rfl
  have HA : Hid (admitQ q key metric known full = if admitE q key known full = 0 then seeQ (addQ q key) else topQ (seeQ (addQ q key)) metric) := Lib.hid rfl
  generalize admitQ q key metric known full = Q at *
  generalize admitE q key known full = E at *
  have k1 := h.c1
  have kl := h.blk.lt
  have H := h
  clear h hT
  go_enter Tryz.func22, Tryz.ntmps22
  go_upto_region 3 with fail
  have A := H.drew
  have F := (FarQ.refl w).below (bdrew (Below.refl _ _))
  go_region_held3 (fun w' => w'.cell? ⟨g, 1, none⟩ = some (.pointer (some ⟨gn, 0, none⟩))) (exact A.c1)
    (first
      | (go_at_call 58; ((with_reducible refine (sum_call key _ hk).mono ?_); rintro e wA ⟨rfl, bA⟩; replace A := A.step bA; replace F := F.below bA; clear bA))
      | (go_at_call 57; ((with_reducible refine (Add_any gn q.b q.rn (sumN key) _ (sumI_nat key).2 A.now (A.tab HT.out)).mono ?_); rintro e wA ⟨rfl, hS, hG⟩; have A2 := A.now' hS hG; have F2 := F.grown A.now.blk (.inr (.inl rfl)) hG; clear hS hG A F; have A := A2; have F := F2; clear A2 F2)))
  go_wp2_with fail
  have e1 : wA = wA := rfl
  clear e1
  generalize hq1 : ({ q with rn := addR q.b q.rn (sumN key) } : QS) = q1 at *
  have HQ1 : Hid (addQ q key = q1) := Lib.hid hq1
  clear hq1 H k1 kl
  rw [HQ1.out] at HE HA
  have HS : Hid (seeQ q1 = { q1 with closed := q1.closed || decide (q1.high ≤ manyQ q1) }) := Lib.hid rfl
  generalize seeQ q1 = q2 at *
  have c3 := A.c3
  have c4 := A.c4
  have c5 := A.c5
  have kl := A.blk.lt
  have kf := A.blk.frozen
  have A0 := A.drew
  have F0 := F.below (bdrew (Below.refl _ _))
  clear A F
  go_region_with (first
    | (go_at_call 20; ((with_reducible refine (many_call A0).mono ?_); rintro eB wB ⟨rfl, bB⟩; have A1 := A0.step bB; have F1 := F0.below bB; clear bB; have d3 := A1.c3; have d4 := A1.c4; have d5 := A1.c5; have dl := A1.blk.lt; have df := A1.blk.frozen))
    | (go_at_call 59; ((with_reducible refine (gsee_any q1.closed q1.low q1.high (manyQ q1) _).mono ?_); rintro eC wC ⟨rfl, bC⟩; have A2 := A1.step bC; have F2 := F1.below bC; clear bC; have m3 := A2.c3; have m4 := A2.c4; have m5 := A2.c5; have ml := A2.blk.lt; have mf := A2.blk.frozen)))
  all_goals
    have A3 : Qt W g gn gb gt q2 (((wC.setCell ⟨g, 3, none⟩ (.bool (q1.closed || decide (q1.high ≤ manyQ q1)))).setCell ⟨g, 4, none⟩ (.int .u64 q1.low)).setCell ⟨g, 5, none⟩ (.int .u64 q1.high)) := by
      rw [HS.out]
      exact A2.gate' _ q1.low q1.high A2.low0
    have F3 : FarQ w (((wC.setCell ⟨g, 3, none⟩ (.bool (q1.closed || decide (q1.high ≤ manyQ q1)))).setCell ⟨g, 4, none⟩ (.int .u64 q1.low)).setCell ⟨g, 5, none⟩ (.int .u64 q1.high)) := F2.grown A2.blk (.inl rfl) (by
      refine only_setCell ?_ (.inl rfl) _
      refine only_setCell ?_ (.inl rfl) _
      refine only_setCell ?_ (.inl rfl) _
      exact only_refl _ _)
    generalize (((wC.setCell ⟨g, 3, none⟩ (.bool (q1.closed || decide (q1.high ≤ manyQ q1)))).setCell ⟨g, 4, none⟩ (.int .u64 q1.low)).setCell ⟨g, 5, none⟩ (.int .u64 q1.high)) = w5 at *
    clear c3 c4 c5 kl kf d3 d4 d5 dl df m3 m4 m5 ml mf A0 A1 A2 F0 F1 F2
    have HD := decide_call known full A3
    rw [← HE.out] at HD
    have hE3 : E = 0 ∨ E = 10 ∨ E = 4 := by rw [HE.out]; exact decideQ_cases _ _ _
    have HD2 := Lib.hid HD
    clear HD HE
    rcases hE3 with h | h | h
    · subst h
      have HA2 : Hid (Q = q2) := Lib.hid (by rw [HA.out, if_pos rfl])
      clear HA
      go_wp2_with fail
      refine HD2.out.mono ?_
      rintro e w6 ⟨rfl, rfl⟩
      go_wp2_with fail
      go_ret
      exact ⟨rfl, by rw [HA2.out]; exact A3, F3⟩
    all_goals
      subst h
      have HA2 : Hid (Q = topQ q2 metric) := Lib.hid (by rw [HA.out, if_neg (by decide)])
      clear HA
      go_wp2_with fail
      refine HD2.out.mono ?_
      rintro e w6 ⟨rfl, rfl⟩
      have c6 := A3.c6
      have kl := A3.blk.lt
      go_wp2_with fail
      refine (tm_add metric 1 (by omega) (by omega) A3.tm).mono ?_
      rintro e w7 ⟨rfl, T7, F7⟩
      go_wp2_with fail
      go_ret
      exact ⟨rfl, by rw [HA2.out]; exact A3.top' T7 F7, F3.top F7 A3.tm.blk⟩
theorem q_admit_far {W w : World} {g : Nat} {q : QS} (hT : Tab W) (key metric : ByteArray) (known full : Bool) (hk : key.size ≤ 9223372036854775806) (hm : metric.size ≤ 64) (h : QQ W g q w) :
    Calls Tryz.prog 22 #[.pointer (some ⟨g, 0, none⟩), .string key, .string metric, .bool known, .bool full] w fun e w' => e = .returned (.int .i64 (admitE q key known full)) ∧ QQ W g (admitQ q key metric known full) w' ∧ FarQ w w' := by
  obtain ⟨a, b, c, h⟩ := h
  refine (admit_far hT key metric known full hk hm h).mono ?_
  rintro e w' ⟨rfl, h', hF⟩
  exact ⟨rfl, ⟨a, b, c, h'⟩, hF⟩
end Go.Proofs.YtapiehddcdnadaaGreatDoor
namespace Go.Proofs.YtapiehddcdnadaaGreatDoor
open Go.RowKit
set_option linter.unusedVariables false
set_option linter.unusedSimpArgs false

structure Qf (W w0 : World) (g gn gb gt : Nat) (q : QS) (w : World) : Prop extends Qt W g gn gb gt q w where
  far : FarQ w0 w
def QF (W w0 : World) (g : Nat) (q : QS) (w : World) : Prop := ∃ gn gb gt, Qf W w0 g gn gb gt q w
section
variable {W w0 w w' w1 w2 w3 : World} {g gn gb gt : Nat} {q : QS}
theorem FarQ.trans (h : FarQ w w1) (h2 : FarQ w1 w2) : FarQ w w2 := ⟨Nat.le_trans h.1 h2.1, fun g t cs hB a1 a2 a3 a4 => h2.2 g t cs (h.2 g t cs hB a1 a2 a3 a4) a1 a2 a3 a4⟩
theorem FarQ.of_below (b : Below w.heap.size w w1) : FarQ w w1 := (FarQ.refl w).below b
theorem Qt.toF (h : Qt W g gn gb gt q w) : Qf W w g gn gb gt q w := ⟨h, FarQ.refl w⟩
theorem QQ.toF (h : QQ W g q w) : QF W w g q w := by
  obtain ⟨a, b, c, h⟩ := h
  exact ⟨a, b, c, h.toF⟩
theorem QF.qq (h : QF W w0 g q w) : QQ W g q w := by
  obtain ⟨a, b, c, h⟩ := h
  exact ⟨a, b, c, h.toQt⟩
theorem QF.far (h : QF W w0 g q w) : FarQ w0 w := by
  obtain ⟨a, b, c, h⟩ := h
  exact h.far
theorem Qf.step (h : Qf W w0 g gn gb gt q w) (hb : Below w.heap.size w w') : Qf W w0 g gn gb gt q w' := ⟨h.toQt.step hb, h.far.below hb⟩
theorem Qf.drew (h : Qf W w0 g gn gb gt q w) : Qf W w0 g gn gb gt q w.drew := h.step (bdrew (Below.refl _ _))
theorem Qf.now' (h : Qf W w0 g gn gb gt q w) {r : List Int} (hS : Sk w' gn q.b r) (hG : w.grownBy w' (some gn)) : Qf W w0 g gn gb gt { q with rn := r } w' := ⟨h.toQt.now' hS hG, h.far.grown h.now.blk (.inr (.inl rfl)) hG⟩
theorem Qf.bef' (h : Qf W w0 g gn gb gt q w) {r : List Int} (hS : Sk w' gb q.b r) (hG : w.grownBy w' (some gb)) : Qf W w0 g gn gb gt { q with rb := r } w' := ⟨h.toQt.bef' hS hG, h.far.grown h.bef.blk (.inr (.inl rfl)) hG⟩
theorem Qf.gate' (h : Qf W w0 g gn gb gt q w) (c : Bool) (lo hi : Int) (hlo : 0 ≤ lo) : Qf W w0 g gn gb gt { q with closed := c, low := lo, high := hi } (((w.setCell ⟨g, 3, none⟩ (.bool c)).setCell ⟨g, 4, none⟩ (.int .u64 lo)).setCell ⟨g, 5, none⟩ (.int .u64 hi)) :=
  ⟨h.toQt.gate' c lo hi hlo, h.far.grown h.blk (.inl rfl) (by
    refine only_setCell ?_ (.inl rfl) _
    refine only_setCell ?_ (.inl rfl) _
    refine only_setCell ?_ (.inl rfl) _
    exact only_refl _ _)⟩
theorem Qf.win' (h : Qf W w0 g gn gb gt q w) (v : Int) (hv : 0 ≤ v ∧ v ≤ 9223372036854775807) : Qf W w0 g gn gb gt { q with win := v } (w.setCell ⟨g, 0, none⟩ (.int .i64 v)) :=
  ⟨h.toQt.win' v hv, h.far.grown h.blk (.inl rfl) (only_setCell (p := ⟨g, 0, none⟩) (only_refl _ _) (.inl rfl) _)⟩
theorem Qf.swap (h : Qf W w0 g gn gb gt q w) : Qf W w0 g gb gn gt { q with rn := q.rb, rb := q.rn } ((w.setCell ⟨g, 1, none⟩ (.pointer (some ⟨gb, 0, none⟩))).setCell ⟨g, 2, none⟩ (.pointer (some ⟨gn, 0, none⟩))) :=
  ⟨h.toQt.swap, h.far.grown h.blk (.inl rfl) (by
    refine only_setCell ?_ (.inl rfl) _
    refine only_setCell ?_ (.inl rfl) _
    exact only_refl _ _)⟩
theorem Qf.renew (h : Qf W w0 g gn gb gt q w) {b : Nat} {r r' : List Int} (b1 : Below w.heap.size w w1) (S1 : Sk w1 w.heap.size b r) (hw2 : w2 = w1.setCell ⟨g, 1, none⟩ (.pointer (some ⟨w.heap.size, 0, none⟩))) (b3 : Below w2.heap.size w2 w3) (S2 : Sk w3 w2.heap.size b r') :
    Qf W w0 g w.heap.size w2.heap.size gt { q with b := b, rn := r, rb := r' } (w3.setCell ⟨g, 2, none⟩ (.pointer (some ⟨w2.heap.size, 0, none⟩))) := by
  have B1 := Blk.step b1 h.blk
  have G1 : w1.grownBy w2 (some g) := by rw [hw2]; exact only_set _ _ _ _
  have B2 : Blk w2 g 84 ((quCells q gn gb gt).setIfInBounds 1 (.pointer (some ⟨w.heap.size, 0, none⟩))) := by rw [hw2]; exact B1.put 1 (.pointer (some ⟨w.heap.size, 0, none⟩))
  have B3 := Blk.step b3 B2
  exact ⟨h.toQt.renew b1 S1 hw2 b3 S2, (((h.far.below b1).grown B1 (.inl rfl) G1).below b3).grown B3 (.inl rfl) (only_set _ _ _ _)⟩
theorem Qf.retop (h : Qf W w0 g gn gb gt q w) {room seen : Nat} {l : List It} (b1 : Below w.heap.size w w1) (T : TM W W.heap.size w.heap.size room seen l w1) :
    Qf W w0 g gn gb w.heap.size { q with room := room, seen := seen, l := l } (w1.setCell ⟨g, 6, none⟩ (.pointer (some ⟨w.heap.size, 0, none⟩))) :=
  ⟨h.toQt.retop b1 T, (h.far.below b1).grown (Blk.step b1 h.blk) (.inl rfl) (only_set _ _ _ _)⟩
/-- A base further down. -/
theorem Tp.weak {b b' room seen : Nat} {A : Option Addr} {n c : Nat} {l : List It} (T : Tp w b g room seen A n c l) (hb : b' ≤ b) : Tp w b' g room seen A n c l := ⟨T.blk, ⟨World.ownsRow.mono T.its.own hb⟩, Nat.le_trans hb T.g0, T.rm, T.ln, T.sn, T.bd⟩
theorem TM.weak {room seen : Nat} {l : List It} (h : TM w0 w0.heap.size g room seen l w) (hW : Below W.heap.size W w0) : TM W W.heap.size g room seen l w := by
  obtain ⟨A, n, c, T, I, B, hb⟩ := h
  exact ⟨A, n, c, T.weak hW.size, I, hW.trans (B.mono hW.size), Nat.le_refl _⟩
theorem Qt.weak (h : Qt w0 g gn gb gt q w) (hW : Below W.heap.size W w0) : Qt W g gn gb gt q w := ⟨h.blk, h.now, h.bef, h.ne, h.tm.weak hW, Nat.le_trans hW.size h.g0, Nat.le_trans hW.size h.gn0, Nat.le_trans hW.size h.gb0, h.win0, h.low0⟩
end
/-- New, and all else is as it was. -/
theorem new_far (W : World) (p : PolN) (a : Option Addr) (n c : Nat) (xs : List Int) (window : Int) (w : World) (hW : Below W.heap.size W w) (hx : Ints .i64 w a n xs) (hn : n ≤ 9223372036854775807) (hr : rightP p xs = true) (h0 : 0 ≤ window) (h1 : window ≤ 9223372036854775807) :
    Calls Tryz.prog 7 #[polV p a n c, .int .i64 window] w fun e w' => ∃ g gn gb gt, e = .returned (.tuple #[.pointer (some ⟨g, 0, none⟩), .int .i64 0]) ∧ Qt W g gn gb gt (newQ p window) w' ∧ Below w.heap.size w w' ∧ w.heap.size ≤ g := by
  refine (new_call w p a n c xs window w (Below.refl _ _) hx hn hr h0 h1).mono ?_
  rintro e w' ⟨g, rfl, gn, gb, gt, h⟩
  exact ⟨g, gn, gb, gt, rfl, h.weak hW, h.below, h.g0⟩
/-- Admit, with far. -/
theorem qf_admit {W w0 w : World} {g gn gb gt : Nat} {q : QS} (hT : Tab W) (key metric : ByteArray) (known full : Bool) (hk : key.size ≤ 9223372036854775806) (hm : metric.size ≤ 64) (h : Qf W w0 g gn gb gt q w) :
    Calls Tryz.prog 22 #[.pointer (some ⟨g, 0, none⟩), .string key, .string metric, .bool known, .bool full] w fun e w' => e = .returned (.int .i64 (admitE q key known full)) ∧ Qf W w0 g gn gb gt (admitQ q key metric known full) w' := by
  refine (admit_far hT key metric known full hk hm h.toQt).mono ?_
  rintro e w' ⟨rfl, h', hF⟩
  exact ⟨rfl, h', h.far.trans hF⟩
end Go.Proofs.YtapiehddcdnadaaGreatDoor
namespace Go.Proofs.YtapiehddcdnadaaGreatDoor
open Go.RowKit
set_option linter.unusedVariables false
set_option linter.unusedSimpArgs false

theorem ints2 {w : World} {g : Nat} (h : Blk w g 2 #[.int .i64 10, .int .i64 60]) : Ints .i64 w (some ⟨g, 0, none⟩) 2 [10, 60] :=
  ⟨rfl, fun x hx => by
    simp only [List.mem_cons, List.not_mem_nil, or_false] at hx
    rcases hx with rfl | rfl <;> rfl, fun _ => ⟨g, 0, rfl, h.lt, fun i hi => by
    have : i = 0 ∨ i = 1 := by omega
    rcases this with rfl | rfl
    · exact h.cellAt 0 rfl
    · exact h.cellAt 1 rfl⟩⟩
theorem ex_state {W V : World} {g : Nat} (h : QQ W g exQ4 V) : Calls Tryz.prog 16 #[.pointer (some ⟨g, 0, none⟩)] V fun e w' => ∃ A c r1 r2, e = .returned (.agg #[.int .i64 5, .bool true, .string r1, .string r2, .int .u64 1, .slice (some ⟨A, 0, none⟩) 1 c]) ∧ w'.cell? ⟨A, 0, none⟩ = some (.string ⟨#[109]⟩) ∧ A < w'.heap.size ∧ Below V.heap.size V w' := by
  refine (q_state h).mono ?_
  rintro e w' ⟨A, n, c, bs, s, rfl, hT, hI, hb⟩
  obtain ⟨f1, f2, f3, f4, _⟩ := exQ4_facts
  rw [f2] at hT
  have hs := told_one hT
  subst hs
  have hn : n = 1 := by have := hI.len; simpa using this.symm
  subst hn
  obtain ⟨r, rfl, _, hr, _, hc⟩ := hI.row (by omega)
  have h0 := (hc 0 (by omega)).1
  refine ⟨r, c, strOfNums exQ4.rn, strOfNums exQ4.rb, ?_, h0, hr, hb⟩
  unfold stateV
  rw [f1, f3, f4]
  rfl
set_option maxRecDepth 100000 in
set_option maxHeartbeats 4000000 in
theorem examples_q (w : World) (hT : Tab w) : Calls Tryz.prog 5 #[] w fun e w' => e = .returned (.bool true) ∧ Below w.heap.size w w' := by
  have HTab := Lib.hid hT
  clear hT
  go_enter Tryz.func5, Tryz.ntmps5
  go_wp2_with fail
  refine (base_call w).mono ?_
  rintro e w1 ⟨g0, rfl, BT, b1⟩
  have kl : w1.heap.size = w1.heap.size := rfl
  clear kl
  go_upto_region 4 with fail
  have BP := Lib.hid (Blk.new w1 24 #[.int .i64 64, .int .i64 0, .int .i64 1, .int .i64 8, .int .i64 6, .int .i64 2, .int .i64 2, .int .i64 60, .int .i64 30, .int .i64 5, .slice (some ⟨g0, 0, none⟩) 2 2])
  have BT2 := Lib.hid (BT.alloc (.cells #[.int .i64 64, .int .i64 0, .int .i64 1, .int .i64 8, .int .i64 6, .int .i64 2, .int .i64 2, .int .i64 60, .int .i64 30, .int .i64 5, .slice (some ⟨g0, 0, none⟩) 2 2] 24))
  have hb2 := Lib.hid (balloc b1 (.cells #[.int .i64 64, .int .i64 0, .int .i64 1, .int .i64 8, .int .i64 6, .int .i64 2, .int .i64 2, .int .i64 60, .int .i64 30, .int .i64 5, .slice (some ⟨g0, 0, none⟩) 2 2] 24))
  have CP := (BP.out).cell
  have LP := (BP.out).lt
  generalize (w1.alloc (.cells #[.int .i64 64, .int .i64 0, .int .i64 1, .int .i64 8, .int .i64 6, .int .i64 2, .int .i64 2, .int .i64 60, .int .i64 30, .int .i64 5, .slice (some ⟨g0, 0, none⟩) 2 2] 24)) = w2 at *
  generalize w1.heap.size = gp at *
  clear BT b1
  have HT2 := Lib.hid (HTab.out.step hb2.out)
  have HX : Hid (∀ V, Below w2.heap.size w2 V → Ints .i64 V (some ⟨g0, 0, none⟩) 2 [10, 60]) := Lib.hid (fun V hV => ints2 (Blk.below hV BT2.out.lt BT2.out))
  have HP : Hid (∀ V, Below w2.heap.size w2 V → Blk V gp 24 #[.int .i64 64, .int .i64 0, .int .i64 1, .int .i64 8, .int .i64 6, .int .i64 2, .int .i64 2, .int .i64 60, .int .i64 30, .int .i64 5, .slice (some ⟨g0, 0, none⟩) 2 2]) := Lib.hid (fun V hV => Blk.below hV BP.out.lt BP.out)
  have C0 : Hid (∀ V, Below w2.heap.size w2 V → Calls Tryz.prog 7 #[.agg #[.int .i64 64, .int .i64 0, .int .i64 1, .int .i64 8, .int .i64 6, .int .i64 2, .int .i64 2, .int .i64 60, .int .i64 30, .int .i64 5, .slice (some ⟨g0, 0, none⟩) 2 2], .int .i64 (-1)] V fun e w' => e = .returned (.tuple #[.pointer none, .int .i64 1]) ∧ Below V.heap.size V w') := Lib.hid (fun V hV => new_no_call P0 _ 2 2 [10, 60] (-1) V (HX.out V hV) (by omega) (.inr (by omega)))
  have C1 : Hid (∀ V, Below w2.heap.size w2 V → Calls Tryz.prog 7 #[.agg #[.int .i64 64, .int .i64 0, .int .i64 1, .int .i64 8, .int .i64 6, .int .i64 2, .int .i64 2, .int .i64 60, .int .i64 30, .int .i64 5, .slice (some ⟨g0, 0, none⟩) 2 2], .int .i64 3] V fun e w' => ∃ g, e = .returned (.tuple #[.pointer (some ⟨g, 0, none⟩), .int .i64 0]) ∧ QQ w2 g (newQ P0 3) w') := Lib.hid (fun V hV => new_call w2 P0 _ 2 2 [10, 60] 3 V hV (HX.out V hV) (by omega) P0_right (by omega) (by omega))
  have C2 : Hid (∀ V g, QQ w2 g (newQ P0 3) V → Calls Tryz.prog 22 #[.pointer (some ⟨g, 0, none⟩), .string ⟨#[107]⟩, .string ⟨#[109]⟩, .bool true, .bool false] V fun e w' => e = .returned (.int .i64 0) ∧ QQ w2 g exQ1 w') := Lib.hid (fun V g h => q_admit HT2.out kB mB true false (by decide) (by decide) h)
  have C3 : Hid (∀ V g, QQ w2 g exQ1 V → Calls Tryz.prog 22 #[.pointer (some ⟨g, 0, none⟩), .string ⟨#[106]⟩, .string ⟨#[109]⟩, .bool false, .bool false] V fun e w' => e = .returned (.int .i64 10) ∧ QQ w2 g exQ2 w') := Lib.hid (fun V g h => by
    have h2 := q_admit HT2.out jB mB false false (by decide) (by decide) h
    rw [ex_b] at h2
    exact h2)
  have C4 : Hid (∀ V g, QQ w2 g exQ2 V → Calls Tryz.prog 11 #[.pointer (some ⟨g, 0, none⟩), .int .i64 3, .agg #[.int .i64 64, .int .i64 0, .int .i64 1, .int .i64 8, .int .i64 6, .int .i64 2, .int .i64 2, .int .i64 60, .int .i64 30, .int .i64 5, .slice (some ⟨g0, 0, none⟩) 2 2]] V fun e w' => e = .returned (.int .i64 0) ∧ Below V.heap.size V w') := Lib.hid (fun V g h => q_roll_no P0 _ 2 2 [10, 60] 3 h (HX.out V h.below) (by omega) (.inr (by rw [exQ2_win]; omega)))
  have C5 : Hid (∀ V g, QQ w2 g exQ2 V → Calls Tryz.prog 11 #[.pointer (some ⟨g, 0, none⟩), .int .i64 5, .agg #[.int .i64 64, .int .i64 0, .int .i64 1, .int .i64 8, .int .i64 6, .int .i64 2, .int .i64 2, .int .i64 60, .int .i64 30, .int .i64 5, .slice (some ⟨g0, 0, none⟩) 2 2]] V fun e w' => e = .returned (.int .i64 2) ∧ QQ w2 g (newQ P0 5) w') := Lib.hid (fun V g h => by
    have h2 := q_roll_later P0 _ 2 2 [10, 60] 5 h (HX.out V h.below) (by omega) P0_right (by rw [exQ2_win]; omega) (by omega)
    rw [ex_d] at h2
    exact h2)
  have C6 : Hid (∀ V g, QQ w2 g (newQ P0 5) V → Calls Tryz.prog 22 #[.pointer (some ⟨g, 0, none⟩), .string ⟨#[107]⟩, .string ⟨#[109]⟩, .bool false, .bool true] V fun e w' => e = .returned (.int .i64 10) ∧ QQ w2 g exQ4 w') := Lib.hid (fun V g h => by
    have h2 := q_admit HT2.out kB mB false true (by decide) (by decide) h
    rw [ex_g] at h2
    exact h2)
  have C7 : Hid (∀ V g, QQ w2 g exQ4 V → Calls Tryz.prog 10 #[.pointer (some ⟨g, 0, none⟩)] V fun e w' => e = .returned (.int .i64 5) ∧ V = w') := Lib.hid (fun V g h => by
    have h2 := q_window h
    rw [exQ4_facts.2.2.1] at h2
    exact h2)
  have C8 : Hid (∀ V g, QQ w2 g exQ4 V → Calls Tryz.prog 24 #[.pointer (some ⟨g, 0, none⟩)] V fun e w' => e = .returned (.bool true) ∧ V = w') := Lib.hid (fun V g h => by
    have h2 := q_closed h
    rw [exQ4_facts.2.2.2.1] at h2
    exact h2)
  have C9 : Hid (∀ V g, QQ w2 g exQ4 V → Calls Tryz.prog 20 #[.pointer (some ⟨g, 0, none⟩)] V fun e w' => e = .returned (.int .u64 1) ∧ Below V.heap.size V w') := Lib.hid (fun V g h => by
    have h2 := q_many h
    rw [exQ4_facts.2.2.2.2] at h2
    exact h2)
  generalize newQ P0 3 = Q0 at *
  generalize newQ P0 5 = Q3 at *
  go_wp2_with fail
  refine (C0.out w2 (Below.refl _ _)).mono ?_
  rintro e w3 ⟨rfl, b3⟩
  replace CP := (HP.out w3 b3).cell
  replace LP := (HP.out w3 b3).lt
  go_wp2_with fail
  refine (C1.out w3 b3).mono ?_
  rintro e w4 ⟨g, rfl, h4⟩
  clear b3 CP LP
  go_wp2_with fail
  refine (C2.out w4 g h4).mono ?_
  rintro e w5 ⟨rfl, h5⟩
  clear h4
  go_wp2_with fail
  refine (C3.out w5 g h5).mono ?_
  rintro e w6 ⟨rfl, h6⟩
  clear h5
  have CP := (HP.out w6 h6.below).cell
  have LP := (HP.out w6 h6.below).lt
  go_wp2_with fail
  refine (C4.out w6 g h6).mono ?_
  rintro e w7 ⟨rfl, b7⟩
  have h7 := h6.step b7
  clear h6 b7
  replace CP := (HP.out w7 h7.below).cell
  replace LP := (HP.out w7 h7.below).lt
  go_wp2_with fail
  refine (C5.out w7 g h7).mono ?_
  rintro e w8 ⟨rfl, h8⟩
  clear h7 CP LP
  go_wp2_with fail
  refine (C6.out w8 g h8).mono ?_
  rintro e w9 ⟨rfl, h9⟩
  clear h8
  go_wp2_with fail
  refine (ex_state h9).mono ?_
  rintro e w10 ⟨A, c, r1, r2, rfl, hc, hA, b10⟩
  have h10 := Lib.hid ((h9.step b10).step (balloc (Below.refl _ _) (.cells #[.int .i64 5, .bool true, .string r1, .string r2, .int .u64 1, .slice (some ⟨A, 0, none⟩) 1 c] 59)))
  clear h9 b10
  go_wp2_with fail
  refine (C7.out _ g h10.out).mono ?_
  rintro e w11 ⟨rfl, rfl⟩
  go_wp2_with fail
  refine (C8.out _ g h10.out).mono ?_
  rintro e w11 ⟨rfl, rfl⟩
  go_wp2_with fail
  refine (C9.out _ g h10.out).mono ?_
  rintro e w11 ⟨rfl, b11⟩
  go_wp2_with fail
  go_ret
  have hfin := (h10.out.step b11).below
  exact ⟨rfl, hb2.out.trans (hfin.mono hb2.out.size)⟩
end Go.Proofs.YtapiehddcdnadaaGreatDoor

/- The quota's contracts without pointers; plain facts of the examples. -/
import Derived.Test.YtapiehddcdnadaaDoorQuL
import Derived.Test.YtapiehddcdnadaaDoorQuT
import Derived.Test.YtapiehddcdnadaaDoorQuV
import Derived.Test.YtapiehddcdnadaaDoorHllR
namespace Go.Proofs.YtapiehddcdnadaaDoor
open Go.RowKit
set_option linter.unusedVariables false
set_option linter.unusedSimpArgs false

section
variable {W w : World} {g : Nat} {q : QS}
theorem q_admit (hT : Tab W) (key metric : ByteArray) (known full : Bool) (hk : key.size ≤ 9223372036854775806) (hm : metric.size ≤ 64) (h : QQ W g q w) :
    Calls Tryd.prog 11 #[.pointer (some ⟨g, 0, none⟩), .string key, .string metric, .bool known, .bool full] w fun e w' => e = .returned (.int .i64 (admitE q key known full)) ∧ QQ W g (admitQ q key metric known full) w' := by
  obtain ⟨a, b, c, h⟩ := h
  refine (admit_call hT key metric known full hk hm h).mono ?_
  rintro e w' ⟨rfl, h'⟩
  exact ⟨rfl, a, b, c, h'⟩
theorem q_many (h : QQ W g q w) : Calls Tryd.prog 12 #[.pointer (some ⟨g, 0, none⟩)] w fun e w' => e = .returned (.int .u64 (manyQ q)) ∧ Below w.heap.size w w' := by
  obtain ⟨a, b, c, h⟩ := h
  exact many_call h
theorem q_closed (h : QQ W g q w) : Calls Tryd.prog 10 #[.pointer (some ⟨g, 0, none⟩)] w fun e w' => e = .returned (.bool q.closed) ∧ w = w' := by
  obtain ⟨a, b, c, h⟩ := h
  exact closed_call h
theorem q_window (h : QQ W g q w) : Calls Tryd.prog 15 #[.pointer (some ⟨g, 0, none⟩)] w fun e w' => e = .returned (.int .i64 q.win) ∧ w = w' := by
  obtain ⟨a, b, c, h⟩ := h
  exact window_call h
theorem q_state (h : QQ W g q w) : Calls Tryd.prog 13 #[.pointer (some ⟨g, 0, none⟩)] w (StatePost w q) := by
  obtain ⟨a, b, c, h⟩ := h
  exact state_call h
theorem q_roll_no (p : PolN) (a : Option Addr) (n c : Nat) (xs : List Int) (window : Int) (h : QQ W g q w) (hx : Ints .i64 w a n xs) (hn : n ≤ 9223372036854775806) (hr : rightP p xs = false ∨ window ≤ q.win) :
    Calls Tryd.prog 14 #[.pointer (some ⟨g, 0, none⟩), .int .i64 window, polV p a n c] w fun e w' => e = .returned (.int .i64 0) ∧ Below w.heap.size w w' := by
  obtain ⟨a, b, c, h⟩ := h
  exact roll_no p _ n _ xs window h hx hn hr
theorem q_roll_next (p : PolN) (a : Option Addr) (n c : Nat) (xs : List Int) (window : Int) (h : QQ W g q w) (hx : Ints .i64 w a n xs) (hn : n ≤ 9223372036854775806) (hr : rightP p xs = true) (hw : window = q.win + 1) (hw2 : window ≤ 9223372036854775807) :
    Calls Tryd.prog 14 #[.pointer (some ⟨g, 0, none⟩), .int .i64 window, polV p a n c] w fun e w' => e = .returned (.int .i64 1) ∧ QQ W g (endQ (nextQ q window) p) w' := by
  obtain ⟨a, b, c, h⟩ := h
  exact roll_next p _ n _ xs window h hx hn hr hw hw2
theorem q_roll_later (p : PolN) (a : Option Addr) (n c : Nat) (xs : List Int) (window : Int) (h : QQ W g q w) (hx : Ints .i64 w a n xs) (hn : n ≤ 9223372036854775806) (hr : rightP p xs = true) (hw : q.win + 1 < window) (hw2 : window ≤ 9223372036854775807) :
    Calls Tryd.prog 14 #[.pointer (some ⟨g, 0, none⟩), .int .i64 window, polV p a n c] w fun e w' => e = .returned (.int .i64 2) ∧ QQ W g (endQ (laterQ q window) p) w' := by
  obtain ⟨a, b, c, h⟩ := h
  exact roll_later p _ n _ xs window h hx hn hr hw hw2
end

theorem base_call (w : World) : Calls Tryd.prog 16 #[] w fun e w' => ∃ g, e = .returned (.agg #[.int .i64 64, .int .i64 32, .int .i64 64, .int .i64 8, .int .i64 6, .int .i64 2, .int .i64 2, .int .i64 60, .int .i64 30, .int .i64 5, .slice (some ⟨g, 0, none⟩) 2 2]) ∧ Blk w' g 2 #[.int .i64 10, .int .i64 60] ∧ Below w.heap.size w w' := by
  go_enter Tryd.func16, Tryd.ntmps16
  go_wp2_with fail
  refine bodyPost_ret (v := .agg #[.int .i64 64, .int .i64 32, .int .i64 64, .int .i64 8, .int .i64 6, .int .i64 2, .int .i64 2, .int .i64 60, .int .i64 30, .int .i64 5, .slice (some ⟨w.heap.size + 1, 0, none⟩) 2 2]) (by simp [results, Tryd.results16, go_sem]) rfl ?_
  exact ⟨w.heap.size + 1, rfl, Blk.newAt (by simp), balloc (balloc (Below.refl _ _) _) _⟩
theorem zip_comm (r s : List Int) : List.zipWith max r s = List.zipWith max s r := by
  rw [List.zipWith_comm]
  congr 1
  funext a b
  exact Int.max_comm b a
theorem zerosN_eq (b : Nat) : zerosN b = zeros b := rfl
theorem many_now {q : QS} (h : q.rn.length = 2 ^ q.b) (h0 : ∀ j, 0 ≤ q.rn.getD j 0) (hb : q.rb = zerosN q.b) : manyQ q = estI q.b q.rn := by
  unfold manyQ
  rw [hb, zerosN_eq, zip_comm (zeros q.b) q.rn, zip_zeros _ _ h h0, zip_zeros _ _ h h0]
theorem one_gen (b : Nat) (h : Nat) (hbc : b = 4 ∨ b = 5 ∨ b = 6 ∨ b = 7 ∨ b = 8 ∨ b = 9 ∨ b = 10) : estI b (addR b (zeros b) h) = 1 ∧ (addR b (zeros b) h).length = 2 ^ b ∧ ∀ j, 0 ≤ (addR b (zeros b) h).getD j 0 := by
  have e : feed b (zeros b) [(h : Int)] = addR b (zeros b) h := by
    rw [feed_cons, Int.toNat_natCast]
    unfold feed
    rfl
  refine ⟨?_, ?_, ?_⟩
  · rw [← e]; exact feed_one b (h : Int) hbc
  · rw [addR_len, zeros_len]
  · intro j
    rw [← e]
    exact feed_nonneg b _ _ (zeros_len _) (fun j => by rw [zeros_get]; exact Int.le_refl _) j
theorem one_many {q : QS} (hbc : q.b = 4 ∨ q.b = 5 ∨ q.b = 6 ∨ q.b = 7 ∨ q.b = 8 ∨ q.b = 9 ∨ q.b = 10) (key : ByteArray) (hn : q.rn = zerosN q.b) (hb : q.rb = zerosN q.b) : manyQ (addQ q key) = 1 := by
  obtain ⟨h1, h2, h3⟩ := one_gen q.b (sumN key) hbc
  unfold addQ
  rw [hn, zerosN_eq]
  generalize addR q.b (zeros q.b) (sumN key) = r at *
  rw [many_now (q := { q with rn := r }) h2 h3 hb]
  exact h1
def P0 : PolN := ⟨64, 0, 1, 8, 6, 2, 2, 60, 30, 5⟩
theorem P0_right : rightP P0 [10, 60] = true := by decide
def kB : ByteArray := ⟨#[107]⟩
def jB : ByteArray := ⟨#[106]⟩
def mB : ByteArray := ⟨#[109]⟩
theorem ex_see (win : Int) : (seeQ (addQ (newQ P0 win) kB)).closed = true := by
  have h := one_many (q := newQ P0 win) (.inr (.inr (.inl rfl))) kB rfl rfl
  unfold seeQ
  simp only [h]
  rfl
theorem ex_a : admitE (newQ P0 3) kB true false = 0 := rfl
def exQ1 : QS := admitQ (newQ P0 3) kB mB true false
theorem exQ1_eq : exQ1 = seeQ (addQ (newQ P0 3) kB) := rfl
theorem ex_b : admitE exQ1 jB false false = 10 := by
  have h : (seeQ (addQ exQ1 jB)).closed = true := by
    have e : (seeQ (addQ exQ1 jB)).closed = (exQ1.closed || decide ((addQ exQ1 jB).high ≤ manyQ (addQ exQ1 jB))) := rfl
    rw [e, exQ1_eq, ex_see, Bool.true_or]
  unfold admitE
  rw [h]
  rfl
def exQ2 : QS := admitQ exQ1 jB mB false false
theorem exQ2_eq : exQ2 = topQ (seeQ (addQ exQ1 jB)) mB := by
  unfold exQ2 admitQ
  rw [ex_b, if_neg (by decide)]
theorem exQ2_win : exQ2.win = 3 := by rw [exQ2_eq]; rfl
theorem ex_d : endQ (laterQ exQ2 5) P0 = newQ P0 5 := by
  rw [endQ_eq]
  · have hl : exQ2.low = 0 := by rw [exQ2_eq]; rfl
    have hb : exQ2.b = 6 := by rw [exQ2_eq]; rfl
    unfold laterQ newQ
    simp only [hl, hb]
    simp
    exact ⟨rfl, rfl⟩
  · show exQ2.b = _
    rw [exQ2_eq]; rfl
theorem ex_g : admitE (newQ P0 5) kB false true = 10 := by
  unfold admitE
  rw [ex_see]
  rfl
def exQ4 : QS := admitQ (newQ P0 5) kB mB false true
theorem exQ4_eq : exQ4 = topQ (seeQ (addQ (newQ P0 5) kB)) mB := by
  unfold exQ4 admitQ
  rw [ex_g, if_neg (by decide)]
theorem exQ4_facts : exQ4.seen = 1 ∧ exQ4.l = [⟨mB, 1, 0⟩] ∧ exQ4.win = 5 ∧ exQ4.closed = true ∧ manyQ exQ4 = 1 := by
  rw [exQ4_eq]
  exact ⟨rfl, rfl, rfl, ex_see 5, one_many (q := newQ P0 5) (.inr (.inr (.inl rfl))) kB rfl rfl⟩
theorem told_one {x : It} {s : List It} (h : Told [x] s) : s = [x] := List.perm_singleton.1 h.perm
end Go.Proofs.YtapiehddcdnadaaDoor

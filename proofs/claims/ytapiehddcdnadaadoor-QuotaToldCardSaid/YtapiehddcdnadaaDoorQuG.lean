/- Plain facts of Roll: what a rolled quota tells. -/
import Derived.Test.YtapiehddcdnadaaDoorQuX
import Derived.Lib.ConvBytes
import Derived.Laws.BytesArg
namespace Go.Proofs.YtapiehddcdnadaaDoor
open Go.RowKit
set_option linter.unusedVariables false
set_option linter.unusedSimpArgs false

/-- What an admission leaves. -/
structure Keep (q q' : QS) : Prop where
  win : q'.win = q.win
  low : q'.low = q.low
  high : q'.high = q.high
  b : q'.b = q.b
  rb : q'.rb = q.rb
  room : q'.room = q.room
theorem Keep.refl (q : QS) : Keep q q := ⟨rfl, rfl, rfl, rfl, rfl, rfl⟩
theorem Keep.admit {q q' : QS} (h : Keep q q') (key metric : ByteArray) (known full : Bool) : Keep q (admitQ q' key metric known full) := by
  unfold admitQ
  split
  · exact ⟨h.win, h.low, h.high, h.b, h.rb, h.room⟩
  · exact ⟨h.win, h.low, h.high, h.b, h.rb, h.room⟩
theorem conv_one (W : World) (v : Int) : (convert 39 9 (.slice (some ⟨W.heap.size, 0, none⟩) 1 1)).run Tryd.prog (W.alloc (.cells #[.int .u8 v] 5)) = .ok (.string (strOfNums [v])) (W.alloc (.cells #[.int .u8 v] 5)) :=
  run_convert_bytes_arg (P := Tryd.prog) _ 39 5 Tryd.underlying39 Tryd.underlying5 W.heap.size 0 1 1 [v] rfl (fun j hj => by
    obtain rfl : j = 0 := by omega
    exact (Blk.new W 5 #[.int .u8 v]).cellAt 0 rfl) 9 Tryd.underlying9
theorem conv_one_drew (W : World) (v : Int) : (convert 39 9 (.slice (some ⟨W.heap.size, 0, none⟩) 1 1)).run Tryd.prog (W.alloc (.cells #[.int .u8 v] 5)).drew = .ok (.string (strOfNums [v])) (W.alloc (.cells #[.int .u8 v] 5)).drew :=
  run_convert_bytes_arg (P := Tryd.prog) _ 39 5 Tryd.underlying39 Tryd.underlying5 W.heap.size 0 1 1 [v] rfl (fun j hj => by
    obtain rfl : j = 0 := by omega
    exact (Blk.new W 5 #[.int .u8 v]).cellAt 0 rfl) 9 Tryd.underlying9
theorem str1_size (v : Int) : (strOfNums [v]).size = 1 := rfl

/-- The sketches are right. -/
structure Reg (q : QS) : Prop where
  bc : q.b = 4 ∨ q.b = 5 ∨ q.b = 6 ∨ q.b = 7 ∨ q.b = 8 ∨ q.b = 9 ∨ q.b = 10
  nl : q.rn.length = 2 ^ q.b
  n0 : ∀ j, 0 ≤ q.rn.getD j 0
  bl : q.rb.length = 2 ^ q.b
  b0 : ∀ j, 0 ≤ q.rb.getD j 0
theorem QQ.reg {W w : World} {g : Nat} {q : QS} (h : QQ W g q w) : Reg q := by
  obtain ⟨_, _, _, h⟩ := h
  exact ⟨h.now.bits_cases, h.now.len, fun j => (h.now.get j).1, h.bef.len, fun j => (h.bef.get j).1⟩
theorem many_bef {q : QS} (R : Reg q) (hn : q.rn = zerosN q.b) : manyQ q = estI q.b q.rb := by
  unfold manyQ
  rw [hn, zerosN_eq, zip_zeros _ _ (zeros_len _) (fun j => by rw [zeros_get]; exact Int.le_refl _), zip_comm, zip_zeros _ _ R.bl R.b0]
theorem many_none {q : QS} (hbc : q.b = 4 ∨ q.b = 5 ∨ q.b = 6 ∨ q.b = 7 ∨ q.b = 8 ∨ q.b = 9 ∨ q.b = 10) (hn : q.rn = zerosN q.b) (hb : q.rb = zerosN q.b) : manyQ q = 0 := by
  unfold manyQ
  rw [hn, hb, zerosN_eq, zip_zeros _ _ (zeros_len _) (fun j => by rw [zeros_get]; exact Int.le_refl _), zip_zeros _ _ (zeros_len _) (fun j => by rw [zeros_get]; exact Int.le_refl _)]
  exact none_est q.b hbc
theorem rolls_next {q : QS} {p : PolN} (R : Reg q) (hb : q.b = p.sketch.toNat) (hrb : q.rb = zerosN q.b) (hlow : q.low = p.low) (win : Int) :
    manyQ (endQ (nextQ q win) p) = manyQ q ∧ (endQ (nextQ q win) p).closed = (q.closed && decide (p.low < manyQ q)) ∧ (endQ (nextQ q win) p).seen = 0 ∧ (endQ (nextQ q win) p).l = [] ∧ (endQ (nextQ q win) p).win = win := by
  have hm := many_now R.nl R.n0 hrb
  have e := endQ_eq (nextQ q win) p hb
  rw [e]
  refine ⟨?_, ?_, rfl, rfl, rfl⟩
  · rw [hm, many_bef (q := { nextQ q win with low := min p.low p.high, high := p.high, room := p.top.toNat, seen := 0, l := [] }) ⟨R.bc, zeros_len _, (fun j => by
      show 0 ≤ (zeros q.b).getD j 0
      rw [zeros_get]; exact Int.le_refl _), R.nl, R.n0⟩ rfl]
    rfl
  · rw [hm, ← hlow]
    rfl
theorem rolls_later {q : QS} {p : PolN} (R : Reg q) (hb : q.b = p.sketch.toNat) (hlow : 0 ≤ q.low) (win : Int) :
    manyQ (endQ (laterQ q win) p) = 0 ∧ (endQ (laterQ q win) p).closed = false ∧ (endQ (laterQ q win) p).seen = 0 ∧ (endQ (laterQ q win) p).l = [] ∧ (endQ (laterQ q win) p).win = win := by
  have e := endQ_eq (laterQ q win) p hb
  rw [e]
  refine ⟨?_, ?_, rfl, rfl, rfl⟩
  · exact many_none (q := { laterQ q win with low := min p.low p.high, high := p.high, room := p.top.toNat, seen := 0, l := [] }) R.bc rfl rfl
  · show (q.closed && decide (q.low < 0)) = false
    rw [decide_eq_false (by omega), Bool.and_false]
theorem told_nil {s : List It} (h : Told [] s) : s = [] := List.perm_nil.1 h.perm
/-- A state of which nobody was refused. -/
theorem state_none {W V : World} {g : Nat} {q : QS} (h : QQ W g q V) (hs : q.seen = 0) (hl : q.l = []) : Calls Tryd.prog 13 #[.pointer (some ⟨g, 0, none⟩)] V fun e w' => ∃ A c, e = .returned (.agg #[.int .i64 q.win, .bool q.closed, .string (strOfNums q.rn), .string (strOfNums q.rb), .int .u64 0, .slice A 0 c]) ∧ Below V.heap.size V w' := by
  refine (q_state h).mono ?_
  rintro e w' ⟨A, n, c, bs, s, rfl, hT, hI, hb⟩
  rw [hl] at hT
  have hs2 := told_nil hT
  subst hs2
  have hn : n = 0 := by have := hI.len; simpa using this.symm
  subst hn
  refine ⟨A, c, ?_, hb⟩
  unfold stateV
  rw [hs]
  rfl
theorem newQ_keep {p : PolN} (ok : p.Ok) (win : Int) : (newQ p win).b = p.sketch.toNat ∧ (newQ p win).rb = zerosN (newQ p win).b ∧ (newQ p win).low = p.low ∧ (newQ p win).high = p.high ∧ (newQ p win).win = win ∧ (newQ p win).room = p.top.toNat := by
  refine ⟨rfl, rfl, ?_, rfl, rfl, rfl⟩
  show min p.low p.high = p.low
  have := ok.lo
  omega
end Go.Proofs.YtapiehddcdnadaaDoor

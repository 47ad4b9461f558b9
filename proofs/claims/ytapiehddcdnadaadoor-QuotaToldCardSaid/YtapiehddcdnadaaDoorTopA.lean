/- The top in memory. -/
import Derived.Test.YtapiehddcdnadaaDoorTopP
import Derived.Test.YtapiehddcdnadaaDoorProg
import Derived.Test.YtapiehddcdnadaaDoorApp
namespace Go.Proofs.YtapiehddcdnadaaDoor
open Go.RowKit
set_option linter.unusedVariables false
set_option linter.unusedSimpArgs false

/-- An item's cells. -/
def encI (x : It) : List Value := [.string x.name, .int .u64 x.many, .int .u64 x.over]
def flat (l : List It) : List Value := l.flatMap encI
theorem flat_len (l : List It) : (flat l).length = l.length * 3 := by
  induction l with
  | nil => rfl
  | cons x l ih => simp only [flat, List.flatMap_cons, List.length_append] at *; rw [ih]; simp [encI]; omega
theorem flat_get (l : List It) (i j : Nat) (hi : i < l.length) (hj : j < 3) : (flat l)[i * 3 + j]? = (encI (l.getD i default))[j]? := by
  induction l generalizing i with
  | nil => simp at hi
  | cons x l ih =>
    show (encI x ++ flat l)[i * 3 + j]? = _
    cases i with
    | zero =>
      rw [List.getElem?_append_left (by simp [encI]; omega)]
      simp
    | succ i =>
      rw [List.getElem?_append_right (by simp [encI]; omega)]
      have := ih i (by simpa using hi)
      rw [List.getD_cons_succ, ← this]
      congr 1
      simp [encI]
      omega
theorem flat_append (l m : List It) : flat (l ++ m) = flat l ++ flat m := by simp [flat]
theorem flat_set (l : List It) (i : Nat) (x : It) (hi : i < l.length) : flat (l.set i x) = (((flat l).set (i * 3) (.string x.name)).set (i * 3 + 1) (.int .u64 x.many)).set (i * 3 + 2) (.int .u64 x.over) := by
  induction l generalizing i with
  | nil => simp at hi
  | cons y l ih =>
    cases i with
    | zero => simp [flat, encI]
    | succ i =>
      have h := ih i (by simpa using hi)
      show encI y ++ flat (l.set i x) = _
      rw [h]
      show _ = (((encI y ++ flat l).set _ _).set _ _).set _ _
      rw [List.set_append_right _ _ (by simp [encI]; omega), List.set_append_right _ _ (by simp [encI]; omega), List.set_append_right _ _ (by simp [encI]; omega)]
      have e0 : (i + 1) * 3 - (encI y).length = i * 3 := by show (i + 1) * 3 - 3 = _; omega
      have e1 : (i + 1) * 3 + 1 - (encI y).length = i * 3 + 1 := by show (i + 1) * 3 + 1 - 3 = _; omega
      have e2 : (i + 1) * 3 + 2 - (encI y).length = i * 3 + 2 := by show (i + 1) * 3 + 2 - 3 = _; omega
      rw [e0, e1, e2]

/-- The row of items at A. -/
structure Its (w : World) (base : Nat) (A : Option Addr) (n c : Nat) (l : List It) : Prop where
  own : w.ownsRow base 52 3 (.slice A n c) n (flat l)

section
variable {w w' : World} {base : Nat} {A : Option Addr} {n c : Nat} {l : List It}
theorem Its.len (h : Its w base A n c l) : l.length = n := by
  have := h.own.1
  rw [flat_len] at this
  omega
theorem Its.nil : Its w base none 0 0 [] := ⟨World.ownsRow_nil w base _ 3⟩
theorem Its.row (h : Its w base A n c l) (hn : 0 < n) : ∃ g, A = some ⟨g, 0, none⟩ ∧ base ≤ g ∧ g < w.heap.size ∧ n ≤ c ∧ ∀ i, i < n → w.cell? ⟨g, i * 3, none⟩ = some (.string (l.getD i default).name) ∧ w.cell? ⟨g, i * 3 + 1, none⟩ = some (.int .u64 (l.getD i default).many) ∧ w.cell? ⟨g, i * 3 + 2, none⟩ = some (.int .u64 (l.getD i default).over) := by
  have hl := h.len
  rcases h.own.2 with ⟨e1, e2⟩ | ⟨g, cap, cur, e1, hb, hg, hnc, hcm, hcs, ht⟩
  · omega
  · injection e1 with h0 h1 h2
    subst h0
    have hc := h.own.cells (g := g) rfl
    have hx := fun i (hi : i < n) j (hj : j < 3) => hc (i * 3 + j)
    refine ⟨g, rfl, hb, ?_, by omega, fun i hi => ⟨?_, ?_, ?_⟩⟩
    · rcases Nat.lt_or_ge g w.heap.size with h3 | h3
      · exact h3
      · rw [Array.getElem?_eq_none h3] at hg; cases hg
    · have := hc (i * 3 + 0) _ ((flat_get l i 0 (by omega) (by omega)).trans rfl)
      rw [addr_add] at this
      simpa using this
    · have := hc (i * 3 + 1) _ ((flat_get l i 1 (by omega) (by omega)).trans rfl)
      rw [addr_add] at this
      simpa using this
    · have := hc (i * 3 + 2) _ ((flat_get l i 2 (by omega) (by omega)).trans rfl)
      rw [addr_add] at this
      simpa using this
end

/-- A block of another element type is not the row. -/
theorem Its.far {w : World} {base : Nat} {A : Option Addr} {n c : Nat} {l : List It} (h : Its w base A n c l) {g : Nat} {t : TypeId} {cs : Array Value} (B : Blk w g t cs) (ht : t ≠ 52) : some g ≠ Value.ownBlock (.slice A n c) := by
  rcases h.own.2 with ⟨e1, _⟩ | ⟨r, cap, cur, e1, _, hg, _⟩ <;> rw [e1]
  · simp [Value.ownBlock]
  · intro e
    simp [Value.ownBlock] at e
    subst e
    unfold Blk at B
    rw [hg] at B
    injection B with B
    injection B with _ h2
    exact ht h2.symm
theorem own_form {w : World} {base : Nat} {v : Value} {n : Nat} {xs : List Value} {e : TypeId} {z : Nat} (h : w.ownsRow base e z v n xs) : ∃ A c, v = .slice A n c := by
  rcases h.2 with ⟨rfl, rfl⟩ | ⟨g, cap, cur, rfl, _⟩
  · exact ⟨none, 0, rfl⟩
  · exact ⟨_, _, rfl⟩
/-- Only blocks of S (and new ones) have turned. -/
structure Only (w w' : World) (S : Nat → Prop) : Prop where
  os : w'.os = w.os
  tape : w'.tape = w.tape
  output : w'.output = w.output
  size : w.heap.size ≤ w'.heap.size
  block : ∀ i, i < w.heap.size → ¬ S i → w'.heap[i]? = w.heap[i]?
section
variable {w w' w1 : World} {S : Nat → Prop} {g : Nat} {t : TypeId} {cs : Array Value}
theorem Only.refl (w : World) (S : Nat → Prop) : Only w w S := ⟨rfl, rfl, rfl, Nat.le_refl _, fun _ _ _ => rfl⟩
theorem Only.trans (h : Only w w' S) (k : Only w' w1 S) : Only w w1 S := ⟨k.os.trans h.os, k.tape.trans h.tape, k.output.trans h.output, Nat.le_trans h.size k.size, fun i hi hn => (k.block i (Nat.lt_of_lt_of_le hi h.size) hn).trans (h.block i hi hn)⟩
theorem Only.of_below (h : Below w.heap.size w w') : Only w w' S := ⟨h.os, h.tape, h.output, h.size, fun i hi _ => h.block i hi⟩
theorem Only.step (h : Only w w' S) (k : Below w'.heap.size w' w1) : Only w w1 S := ⟨k.os.trans h.os, k.tape.trans h.tape, k.output.trans h.output, Nat.le_trans h.size k.size, fun i hi hn => (k.block i (Nat.lt_of_lt_of_le hi h.size)).trans (h.block i hi hn)⟩
theorem Only.of_grown {row : Option Nat} (h : w.grownBy w' row) (hs : ∀ i, row = some i → S i) : Only w w' S := ⟨h.os, h.tape, h.output, h.size, fun i hi hn => h.block i hi (fun e => hn (hs i e.symm))⟩
theorem Only.grown {row : Option Nat} (h : Only w w' S) (k : w'.grownBy w1 row) (hs : ∀ i, row = some i → S i ∨ w.heap.size ≤ i) : Only w w1 S :=
  ⟨k.os.trans h.os, k.tape.trans h.tape, k.output.trans h.output, Nat.le_trans h.size k.size, fun i hi hn => (k.block i (Nat.lt_of_lt_of_le hi h.size) (fun e => by
    rcases hs i e.symm with h1 | h1
    · exact hn h1
    · omega)).trans (h.block i hi hn)⟩
theorem Only.blk (h : Only w w' S) (B : Blk w g t cs) (hn : ¬ S g) : Blk w' g t cs := (h.block g B.lt hn).trans B
theorem Only.below {W : World} {base : Nat} (h : Only w w' S) (hB : Below base W w) (hb : base ≤ w.heap.size) (hs : ∀ i, i < base → ¬ S i) : Below base W w' :=
  ⟨h.os.trans hB.os, h.tape.trans hB.tape, h.output.trans hB.output, Nat.le_trans hB.size h.size, fun i hi => (h.block i (Nat.lt_of_lt_of_le hi hb) (hs i hi)).trans (hB.block i hi)⟩
end
end Go.Proofs.YtapiehddcdnadaaDoor

/- The lexer, in plain Lean: what is cut, escaped, told to be plain, cut in lines. No program in sight. -/
import Derived.Lib.Hide
namespace Go.Proofs.YtoaohohnaifjdaaDoor
open Go
set_option linter.unusedVariables false
set_option linter.unusedSimpArgs false

def ctl (b : UInt8) : Bool := b < 32 || b == 127
def esc (b : UInt8) : Bool := b == 44 || b == 61 || b == 32 || b == 92
def inB (l : List UInt8) (b : UInt8) : Bool := l.contains b

/-- What a cut gives: the word, the rest, the stop, the error. -/
structure CutR where
  word : List UInt8
  rest : List UInt8
  stop : UInt8
  err : Nat
def bad : CutR := ⟨[], [], 0, 2⟩
def cutF (stops : List UInt8) : Bool → List UInt8 → List UInt8 → CutR
  | op, out, [] => if op then bad else ⟨out, [], 0, 0⟩
  | op, out, b :: t =>
    if ctl b || (op && !esc b) then bad
    else if op then cutF stops false (out ++ [b]) t
    else if b == 92 then cutF stops true out t
    else if inB stops b then ⟨out, t, b, 0⟩
    else cutF stops false (out ++ [b]) t
def cutL (s stops : List UInt8) : CutR := if inB stops 92 then ⟨[], [], 0, 1⟩ else cutF stops false [] s
/-- The document's. -/
def refF (stops : List UInt8) : Bool → List UInt8 → List UInt8 → CutR
  | op, out, [] => if op then bad else ⟨out, [], 0, 0⟩
  | op, out, b :: t =>
    if op then (if !esc b || ctl b then bad else refF stops false (out ++ [b]) t)
    else if inB stops b then (if ctl b then bad else ⟨out, t, b, 0⟩)
    else if b == 92 then refF stops true out t
    else if ctl b then bad else refF stops false (out ++ [b]) t

theorem esc_ctl {b : UInt8} (h : esc b = true) : ctl b = false := by
  unfold esc at h
  simp only [Bool.or_eq_true, beq_iff_eq] at h
  rcases h with ((rfl | rfl) | rfl) | rfl <;> decide
theorem cutF_ref (stops : List UInt8) (hs : inB stops 92 = false) : ∀ (l : List UInt8) (op : Bool) (out : List UInt8), cutF stops op out l = refF stops op out l := by
  intro l
  induction l with
  | nil => intro op out; rw [cutF, refF]
  | cons b t ih =>
    intro op out
    rw [refF, cutF]
    cases op with
    | true =>
      simp only [Bool.true_and, if_true]
      by_cases h : (ctl b || !esc b) = true
      · have h2 : (!esc b || ctl b) = true := by rw [Bool.or_comm]; exact h
        rw [if_pos h, if_pos h2]
      · have h2 : ¬ (!esc b || ctl b) = true := by rw [Bool.or_comm]; exact h
        rw [if_neg h, if_neg h2]
        exact ih _ _
    | false =>
      simp only [Bool.false_and, Bool.or_false, Bool.false_eq_true, if_false]
      cases hin : inB stops b with
      | true =>
        have hne : (b == 92) = false := by
          cases h : (b == 92) with
          | false => rfl
          | true => rw [beq_iff_eq] at h; subst h; rw [hs] at hin; cases hin
        simp [hne]
      | false =>
        cases he : (b == 92) with
        | true =>
          have hb : ctl b = false := by rw [beq_iff_eq] at he; subst he; decide
          simp [hb, ih]
        | false => simp [ih]

def escape (l : List UInt8) : List UInt8 := l.flatMap fun b => if esc b then [92, b] else [b]
def plainL (l : List UInt8) : Bool := l.all fun b => !ctl b
theorem escape_cons (b : UInt8) (l : List UInt8) : escape (b :: l) = (if esc b then [92, b] else [b]) ++ escape l := by simp [escape]
theorem escape_append (a b : List UInt8) : escape (a ++ b) = escape a ++ escape b := by simp [escape]
theorem escape_len (l : List UInt8) : l.length ≤ (escape l).length ∧ (escape l).length ≤ 2 * l.length := by
  induction l with
  | nil => simp [escape]
  | cons b l ih =>
    rw [escape_cons]
    split <;> simp <;> omega
theorem plain_append (a b : List UInt8) : plainL (a ++ b) = (plainL a && plainL b) := by simp [plainL]
theorem plain_escape (l : List UInt8) : plainL (escape l) = plainL l := by
  induction l with
  | nil => rfl
  | cons b l ih =>
    rw [escape_cons, plain_append, ih]
    show _ = (!ctl b && plainL l)
    congr 1
    by_cases h : esc b = true
    · rw [if_pos h, esc_ctl h]
      simp [plainL, esc_ctl h, show ctl 92 = false by decide]
    · rw [if_neg h]; simp [plainL]
/-- What was escaped is cut as it was; then comes what stands behind. -/
theorem cutF_escape {stops : List UInt8} (hst : ∀ b, inB stops b = true → esc b = true ∧ b ≠ 92) : ∀ (s out r : List UInt8), plainL s = true → cutF stops false out (escape s ++ r) = cutF stops false (out ++ s) r
  | [], out, r, _ => by simp [escape]
  | b :: s, out, r, h => by
    have h1 : (!ctl b && plainL s) = true := h
    simp only [Bool.and_eq_true, Bool.not_eq_true'] at h1
    rw [escape_cons]
    by_cases he : esc b = true
    · rw [if_pos he]
      show cutF stops false out (92 :: b :: (escape s ++ r)) = _
      rw [cutF]
      simp only [show ctl 92 = false by decide, Bool.false_and, Bool.or_false, Bool.false_eq_true, if_false, beq_self_eq_true, if_true]
      rw [cutF]
      simp only [h1.1, he, Bool.not_true, Bool.and_false, Bool.or_false, Bool.false_eq_true, if_false, if_true]
      rw [cutF_escape hst s _ r h1.2]
      simp
    · rw [if_neg he]
      show cutF stops false out (b :: (escape s ++ r)) = _
      rw [cutF]
      have hb : ¬ (b == 92) = true := fun h => by
        rw [beq_iff_eq] at h; subst h; exact he (by decide)
      have hi : ¬ inB stops b = true := fun h => he (hst b h).1
      simp only [h1.1, Bool.false_and, Bool.or_false, Bool.false_eq_true, if_false, hb, hi]
      rw [cutF_escape hst s _ r h1.2]
      simp
theorem cutF_stop {stops : List UInt8} {b : UInt8} (h : inB stops b = true) (hc : ctl b = false) (h9 : b ≠ 92) (out r : List UInt8) : cutF stops false out (b :: r) = ⟨out, r, b, 0⟩ := by
  rw [cutF]
  have hb : ¬ (b == 92) = true := fun h => h9 (by simpa using h)
  simp [hc, hb, h]
theorem cutF_end (stops out : List UInt8) : cutF stops false out [] = ⟨out, [], 0, 0⟩ := by simp [cutF]

/-! Lines -/
def pieces : List UInt8 → List (List UInt8)
  | [] => [[]]
  | b :: t => if b == 10 then [] :: pieces t else match pieces t with
    | [] => [[b]]
    | p :: ps => (b :: p) :: ps
def trimCR (l : List UInt8) : List UInt8 := if l.getLast? = some 13 then l.dropLast else l
def keepL (l : List UInt8) : Bool := !l.isEmpty && !(l.head? == some 35)
def linesOf (ps : List (List UInt8)) : List (List UInt8) := (ps.map trimCR).filter keepL
def linesL (l : List UInt8) : List (List UInt8) := linesOf (pieces l)
theorem pieces_none : ∀ {l : List UInt8}, (10 : UInt8) ∉ l → pieces l = [l]
  | [], _ => rfl
  | b :: t, h => by
    have h1 : ¬ (b == 10) = true := fun e => h (by rw [beq_iff_eq] at e; subst e; exact List.mem_cons_self)
    have h2 := pieces_none (l := t) (fun e => h (List.mem_cons_of_mem _ e))
    rw [pieces, if_neg h1, h2]
theorem pieces_some : ∀ {p : List UInt8} (r : List UInt8), (10 : UInt8) ∉ p → pieces (p ++ 10 :: r) = p :: pieces r
  | [], r, _ => by simp [pieces]
  | b :: t, r, h => by
    have h1 : ¬ (b == 10) = true := fun e => h (by rw [beq_iff_eq] at e; subst e; exact List.mem_cons_self)
    have h2 := pieces_some (p := t) r (fun e => h (List.mem_cons_of_mem _ e))
    show pieces (b :: (t ++ 10 :: r)) = _
    rw [pieces, if_neg h1, h2]
theorem linesOf_append (a b : List (List UInt8)) : linesOf (a ++ b) = linesOf a ++ linesOf b := by simp [linesOf]
theorem linesOf_one (p : List UInt8) : linesOf [p] = if keepL (trimCR p) then [trimCR p] else [] := by
  simp only [linesOf, List.map_cons, List.map_nil, List.filter_cons, List.filter_nil]
theorem linesL_some {p : List UInt8} (r : List UInt8) (h : (10 : UInt8) ∉ p) : linesL (p ++ 10 :: r) = (if keepL (trimCR p) then [trimCR p] else []) ++ linesL r := by
  unfold linesL
  rw [pieces_some r h, ← linesOf_one, ← linesOf_append]
  rfl
theorem linesL_none {p : List UInt8} (h : (10 : UInt8) ∉ p) : linesL p = if keepL (trimCR p) then [trimCR p] else [] := by
  unfold linesL
  rw [pieces_none h, linesOf_one]
end Go.Proofs.YtoaohohnaifjdaaDoor

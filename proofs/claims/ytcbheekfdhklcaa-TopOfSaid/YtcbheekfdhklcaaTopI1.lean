/- The reference's Items: plain lemmas; append of nothing. -/
import Derived.Test.YtcbheekfdhklcaaTopZ2
namespace Go.Proofs.Ytcbheekfdhklcaa
open Go.RowKit
set_option linter.unusedVariables false
set_option linter.unusedSimpArgs false

theorem tw_take (p : It → Bool) : ∀ (l : List It) (a : Nat), a ≤ l.length → (∀ q, q < a → p (l.getD q default) = true) → (a = l.length ∨ p (l.getD a default) = false) → l.takeWhile p = l.take a ∧ l.dropWhile p = l.drop a
  | [], a, h, _, _ => by simp at h; subst h; simp
  | x :: l, 0, _, _, h2 => by
    rcases h2 with h2 | h2
    · simp at h2
    · have hx : p x = false := h2
      simp [List.takeWhile_cons, List.dropWhile_cons, hx]
  | x :: l, a + 1, h, h1, h2 => by
    have hx : p x = true := h1 0 (by omega)
    have ih := tw_take p l a (by simpa using h) (fun q hq => by have := h1 (q + 1) (by omega); rwa [List.getD_cons_succ] at this) (by
      rcases h2 with h2 | h2
      · exact .inl (by simpa using h2)
      · rw [List.getD_cons_succ] at h2; exact .inr h2)
    rw [List.takeWhile_cons, List.dropWhile_cons, hx]
    simp [ih.1, ih.2]
theorem insT_at (s : List It) (x : It) (a : Nat) (h : a ≤ s.length) (h1 : ∀ q, q < a → ahead (s.getD q default) x = true) (h2 : a = s.length ∨ ahead (s.getD a default) x = false) : insT s x = s.take a ++ x :: s.drop a := by
  obtain ⟨e1, e2⟩ := tw_take (fun y => ahead y x) s a h h1 h2
  unfold insT
  rw [e1, e2]

theorem run_app0 {P : Program} {w : World} (t ty e : TypeId) (i : TypeInfo) (ht : P.underlying t = some (.slice e)) (hi : P.info? e = some i) {base size : Nat} {A : Option Addr} {n c : Nat} {xs : List Value} (h : w.ownsRow base e size (.slice A n c) n xs) (c2 : Nat) :
    (Builtin.append_ #[t, t] ty #[.slice A n c, .slice none 0 c2]).run P w = .ok (.slice A n c) w := by
  rcases h.2 with ⟨h0, rfl⟩ | ⟨g, cap, cur, h0, _, _, hnc, _⟩ <;> rw [h0]
  · simp [Builtin.append_, run_underlying ht, sizeOf, typeInfo, hi, Builtin.lenOf, Builtin.firstCells]
  · simp [Builtin.append_, run_underlying ht, sizeOf, typeInfo, hi, Builtin.lenOf, Builtin.firstCells, hnc, storeCells]
theorem wpList_app0 {P : Program} {w : World} {ops : Array Oper} {rest : List Oper} {o : Oper} {a : Act} {Q : Exit → Act → World → Prop} (hgd : o.guard = none) (s x : Operand) (t : TypeId)
    (ho : o.op = .call { callee := .builtin .append, args := #[s, x], argTypes := #[t, t] }) (e : TypeId) (i : TypeInfo) (ht : P.underlying t = some (.slice e)) (hi : P.info? e = some i)
    (base size : Nat) (A : Option Addr) (n c : Nat) (xs : List Value) (h : w.ownsRow base e size (.slice A n c) n xs) (hsv : a.eval s = .slice A n c) (c2 : Nat) (hxv : a.eval x = .slice none 0 c2)
    (hK : wpList P ops Q rest (a.put o.dst (.slice A n c)) w) : wpList P ops Q (o :: rest) a w := by
  refine wpList_plain hgd fun K hk => ?_
  have hr := run_app0 (P := P) t o.type e i ht hi h c2
  unfold Oper.wp execOp
  simp only [ho, resolve, invoke, builtin, Sem.run_bind, Sem.run_pure, Result.andThen_ok, List.map_toArray, List.map_cons, List.map_nil, hsv, hxv, hr]
  exact hk _ _ hK
end Go.Proofs.Ytcbheekfdhklcaa

/- The program's top beside the reference's. -/
import Derived.Test.YtcbheekfdhklcaaTopI2
import Derived.Test.YtcbheekfdhklcaaTopS
namespace Go.Proofs.Ytcbheekfdhklcaa
open Go.RowKit
set_option linter.unusedVariables false
set_option linter.unusedSimpArgs false

/-- Every block of S is of the kind P. -/
def Kinds (w : World) (S : Nat → Prop) (P : TypeId → Prop) : Prop := ∀ q, S q → ∃ cs t, w.heap[q]? = some (.cells cs t (0, 0)) ∧ P t
theorem own_kind {w : World} {base : Nat} {e : TypeId} {v : Value} {n : Nat} {xs : List Value} (h : w.ownsRow base e 3 v n xs) {q : Nat} (hq : v.ownBlock = some q) : ∃ cs, w.heap[q]? = some (.cells cs e (0, 0)) := by
  rcases h.2 with ⟨rfl, _⟩ | ⟨r, cap, cur, rfl, _, hg, _⟩
  · simp [Value.ownBlock] at hq
  · simp [Value.ownBlock] at hq
    subst hq
    exact ⟨cur, hg⟩
theorem own_keep {w w' : World} {base : Nat} {e : TypeId} {v : Value} {n : Nat} {xs : List Value} {S : Nat → Prop} (hO : Only w w' S) (hK : Kinds w S (· ≠ e)) (h : w.ownsRow base e 3 v n xs) : w'.ownsRow base e 3 v n xs := by
  refine ⟨h.1, ?_⟩
  rcases h.2 with h0 | ⟨q, cap, cur, hv, hq0, hq, rest⟩
  · exact .inl h0
  · refine .inr ⟨q, cap, cur, hv, hq0, ?_, rest⟩
    rw [hO.block q (by rcases Nat.lt_or_ge q w.heap.size with h3 | h3; exact h3; rw [Array.getElem?_eq_none h3] at hq; cases hq) (fun hS => by
      obtain ⟨cs, t, h1, h2⟩ := hK q hS
      rw [hq] at h1
      injection h1 with h1
      injection h1 with _ h3
      exact h2 h3.symm)]
    exact hq
theorem blk_keep {w w' : World} {g : Nat} {t : TypeId} {cs : Array Value} {S : Nat → Prop} (hO : Only w w' S) (hK : Kinds w S (· ≠ t)) (h : Blk w g t cs) : Blk w' g t cs := hO.blk h (fun hS => by
  obtain ⟨c2, t2, h1, h2⟩ := hK g hS
  unfold Blk at h
  rw [h] at h1
  injection h1 with h1
  injection h1 with _ h3
  exact h2 h3.symm)
theorem Tp.kinds {w : World} {base g room seen : Nat} {A : Option Addr} {n c : Nat} {l : List It} (T : Tp w base g room seen A n c l) : Kinds w (mine g (.slice A n c)) (fun t => t = 63 ∨ t = 35) := by
  rintro q (rfl | h)
  · exact ⟨_, _, T.blk, .inl rfl⟩
  · obtain ⟨cs, hc⟩ := own_kind T.its.own h.symm
    exact ⟨cs, _, hc, .inr rfl⟩
theorem Rp.kinds {w : World} {base g room seen : Nat} {A : Option Addr} {n c : Nat} {l : List It} (T : Rp w base g room seen A n c l) : Kinds w (mine g (.slice A n c)) (fun t => t = 50 ∨ t = 52) := by
  rintro q (rfl | h)
  · exact ⟨_, _, T.blk, .inl rfl⟩
  · obtain ⟨cs, hc⟩ := own_kind T.its.own h.symm
    exact ⟨cs, _, hc, .inr rfl⟩
theorem Kinds.mono {w : World} {S : Nat → Prop} {P P' : TypeId → Prop} (h : Kinds w S P) (hp : ∀ t, P t → P' t) : Kinds w S P' := fun q hq => by
  obtain ⟨cs, t, h1, h2⟩ := h q hq
  exact ⟨cs, t, h1, hp t h2⟩
theorem keepR {w w' : World} {base g h room seen s2 : Nat} {A : Option Addr} {n c : Nat} {l : List It} {A2 : Option Addr} {n2 c2 : Nat} {l2 : List It} (T : Tp w base g room seen A n c l) (R : Rp w base h room s2 A2 n2 c2 l2) (hO : Only w w' (mine g (.slice A n c))) : Rp w' base h room s2 A2 n2 c2 l2 :=
  ⟨blk_keep hO (T.kinds.mono (by rintro t (rfl | rfl) <;> decide)) R.blk, ⟨own_keep hO (T.kinds.mono (by rintro t (rfl | rfl) <;> decide)) R.its.own⟩, R.g0, R.rm, R.ln, R.sn, R.bd⟩
theorem keepT {w w' : World} {base g h room seen s2 : Nat} {A : Option Addr} {n c : Nat} {l : List It} {A2 : Option Addr} {n2 c2 : Nat} {l2 : List It} (T : Tp w base g room seen A n c l) (R : Rp w base h room s2 A2 n2 c2 l2) (hO : Only w w' (mine h (.slice A2 n2 c2))) : Tp w' base g room seen A n c l :=
  ⟨blk_keep hO (R.kinds.mono (by rintro t (rfl | rfl) <;> decide)) T.blk, ⟨own_keep hO (R.kinds.mono (by rintro t (rfl | rfl) <;> decide)) T.its.own⟩, T.g0, T.rm, T.ln, T.sn, T.bd⟩

/-- Both at once: the program's at g, the reference's at h. -/
def PR (W : World) (base g h room s1 s2 : Nat) (L1 L2 : List It) (w : World) : Prop := ∃ A n c A2 n2 c2, Tp w base g room s1 A n c L1 ∧ Rp w base h room s2 A2 n2 c2 L2 ∧ Inv room s1 L1 ∧ Inv room s2 L2 ∧ Below base W w ∧ base ≤ W.heap.size
section
variable {W w w' : World} {base g h room s1 s2 : Nat} {L1 L2 : List It}
theorem PR.tm (H : PR W base g h room s1 s2 L1 L2 w) : TM W base g room s1 L1 w := by
  obtain ⟨A, n, c, A2, n2, c2, T, R, I1, I2, hB, hb⟩ := H
  exact ⟨A, n, c, T, I1, hB, hb⟩
theorem PR.step (H : PR W base g h room s1 s2 L1 L2 w) (hb : Below w.heap.size w w') : PR W base g h room s1 s2 L1 L2 w' := by
  have hbs := H.tm.bs
  obtain ⟨A, n, c, A2, n2, c2, T, R, I1, I2, hB, hW⟩ := H
  exact ⟨A, n, c, A2, n2, c2, T.step hb, R.step hb, I1, I2, hB.trans (hb.mono hbs), hW⟩
theorem pr_add1 (nm : ByteArray) (by_ : Nat) (hby : by_ < 18446744073709551616) (hnm : nm.size ≤ 140737488355328) (H : PR W base g h room s1 s2 L1 L2 w) :
    Calls Try.prog 11 #[.pointer (some ⟨g, 0, none⟩), .string nm, .int .u64 by_] w fun e w' => e = .returned (.int .i64 (addE s1 nm by_)) ∧ PR W base g h room (stepS s1 nm by_) s2 (stepT room s1 L1 nm by_) L2 w' := by
  have hbs := H.tm.bs
  obtain ⟨A, n, c, A2, n2, c2, T, R, I1, I2, hB, hW⟩ := H
  refine (add_call base g room s1 A n c L1 nm by_ hby hnm w T I1).mono ?_
  rintro e w1 ⟨rfl, A', n', c', T', hO, hN⟩
  refine ⟨rfl, A', n', c', A2, n2, c2, T', keepR T R hO, I1.step T.rm.1 nm by_, I2, hO.below hB hbs ?_, hW⟩
  rintro i hi (rfl | h2)
  · have := T.g0; omega
  · have := (T.its.own.lt i h2.symm).1; omega
theorem pr_add2 (nm : ByteArray) (by_ : Nat) (hby : by_ < 18446744073709551616) (hnm : nm.size ≤ 140737488355328) (H : PR W base g h room s1 s2 L1 L2 w) :
    Calls Try.prog 17 #[.pointer (some ⟨h, 0, none⟩), .string nm, .int .u64 by_] w fun e w' => e = .returned (.int .i64 (addE s2 nm by_)) ∧ PR W base g h room s1 (stepS s2 nm by_) L1 (stepT room s2 L2 nm by_) w' := by
  have hbs := H.tm.bs
  obtain ⟨A, n, c, A2, n2, c2, T, R, I1, I2, hB, hW⟩ := H
  refine (radd_call base h room s2 A2 n2 c2 L2 nm by_ hby hnm w R I2).mono ?_
  rintro e w1 ⟨rfl, A', n', c', R', hO, hN⟩
  refine ⟨rfl, A, n, c, A', n', c', keepT T R hO, R', I1, I2.step R.rm.1 nm by_, hO.below hB hbs ?_, hW⟩
  rintro i hi (rfl | h2)
  · have := R.g0; omega
  · have := (R.its.own.lt i h2.symm).1; omega
theorem pr_least1 (H : PR W base g h room s1 s2 L1 L2 w) : Calls Try.prog 14 #[.pointer (some ⟨g, 0, none⟩)] w fun e w' => e = .returned (.int .u64 (leastT room L1)) ∧ PR W base g h room s1 s2 L1 L2 w' := by
  refine (tm_least H.tm).mono ?_
  rintro e w1 ⟨rfl, _, hb⟩
  exact ⟨rfl, H.step hb⟩
theorem pr_least2 (H : PR W base g h room s1 s2 L1 L2 w) : Calls Try.prog 24 #[.pointer (some ⟨h, 0, none⟩)] w fun e w' => e = .returned (.int .u64 (leastT room L2)) ∧ PR W base g h room s1 s2 L1 L2 w' := by
  have H' := H
  obtain ⟨A, n, c, A2, n2, c2, T, R, I1, I2, hB, hW⟩ := H
  refine (rleast_call R).mono ?_
  rintro e w1 ⟨rfl, hb⟩
  exact ⟨rfl, H'.step hb⟩
theorem pr_seen (H : PR W base g h room s1 s2 L1 L2 w) : w.cell? ⟨h, 2, none⟩ = some (.int .u64 s2) ∧ h < w.heap.size := by
  obtain ⟨A, n, c, A2, n2, c2, T, R, I1, I2, hB, hW⟩ := H
  exact ⟨R.blk.cellAt 2 rfl, R.blk.lt⟩
theorem pr_clear1 (H : PR W base g h room s1 s2 L1 L2 w) : Calls Try.prog 15 #[.pointer (some ⟨g, 0, none⟩)] w fun e w' => e = .returned (.tuple #[]) ∧ PR W base g h room 0 s2 [] L2 w' := by
  have hbs := H.tm.bs
  obtain ⟨A, n, c, A2, n2, c2, T, R, I1, I2, hB, hW⟩ := H
  refine (clear_call T).mono ?_
  rintro e w1 ⟨rfl, T', hO⟩
  have hO' : Only w w1 (mine g (.slice A n c)) := hO.mono (fun i _ hi => .inl hi)
  refine ⟨rfl, none, 0, 0, A2, n2, c2, T', keepR T R hO', ⟨rfl, List.nodup_nil, Nat.zero_le _, Nat.zero_le _⟩, I2, hO.below hB hbs (fun i hi e => ?_), hW⟩
  have := T.g0
  omega
theorem pr_clear2 (H : PR W base g h room s1 s2 L1 L2 w) : Calls Try.prog 25 #[.pointer (some ⟨h, 0, none⟩)] w fun e w' => e = .returned (.tuple #[]) ∧ PR W base g h room s1 0 L1 [] w' := by
  have hbs := H.tm.bs
  obtain ⟨A, n, c, A2, n2, c2, T, R, I1, I2, hB, hW⟩ := H
  refine (rclear_call R).mono ?_
  rintro e w1 ⟨rfl, R', hO⟩
  have hO' : Only w w1 (mine h (.slice A2 n2 c2)) := hO.mono (fun i _ hi => .inl hi)
  refine ⟨rfl, A, n, c, none, 0, 0, keepT T R hO', R', I1, ⟨rfl, List.nodup_nil, Nat.zero_le _, Nat.zero_le _⟩, hO.below hB hbs (fun i hi e => ?_), hW⟩
  have := R.g0
  omega
end
end Go.Proofs.Ytcbheekfdhklcaa

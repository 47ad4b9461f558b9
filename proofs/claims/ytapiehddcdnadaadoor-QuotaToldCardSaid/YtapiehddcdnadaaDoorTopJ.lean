/- One top, all of it; the chapter's examples. -/
import Derived.Test.YtapiehddcdnadaaDoorTopI
namespace Go.Proofs.YtapiehddcdnadaaDoor
open Go.RowKit
set_option linter.unusedVariables false
set_option linter.unusedSimpArgs false

/-- A top at g in w; all below base is as in W. -/
def TM (W : World) (base g room seen : Nat) (l : List It) (w : World) : Prop := ∃ A n c, Tp w base g room seen A n c l ∧ Inv room seen l ∧ Below base W w ∧ base ≤ W.heap.size
/-- Blocks of other kinds are as they were. -/
def Far (g : Nat) (w w' : World) : Prop := w.heap.size ≤ w'.heap.size ∧ ∀ h t cs, Blk w h t cs → h ≠ g → t ≠ 52 → Blk w' h t cs
section
variable {W w w' : World} {base g room seen : Nat} {l : List It}
theorem TM.bs (h : TM W base g room seen l w) : base ≤ w.heap.size := by
  obtain ⟨A, n, c, T, _⟩ := h
  have := T.blk.lt
  have := T.g0
  omega
theorem TM.below (h : TM W base g room seen l w) : Below base W w := by
  obtain ⟨A, n, c, T, I, B, _⟩ := h
  exact B
theorem TM.inv (h : TM W base g room seen l w) : Inv room seen l := by
  obtain ⟨A, n, c, T, I, B, _⟩ := h
  exact I
theorem TM.rm (h : TM W base g room seen l w) : 1 ≤ room ∧ room ≤ 16 := by
  obtain ⟨A, n, c, T, I, B, _⟩ := h
  exact T.rm
theorem TM.lt (h : TM W base g room seen l w) : g < w.heap.size := by
  obtain ⟨A, n, c, T, I, B, _⟩ := h
  exact T.blk.lt
theorem TM.ge (h : TM W base g room seen l w) : base ≤ g := by
  obtain ⟨A, n, c, T, I, B, _⟩ := h
  exact T.g0
theorem Tp.step {A : Option Addr} {n c : Nat} (T : Tp w base g room seen A n c l) (hb : Below w.heap.size w w') : Tp w' base g room seen A n c l :=
  ⟨Blk.step hb T.blk, ⟨T.its.own.kept (only_of_below hb none) (by rcases Value.ownBlock (.slice A n c) with _ | z; exact .inl rfl; exact .inr (by simp))⟩, T.g0, T.rm, T.ln, T.sn, T.bd⟩
theorem TM.step (h : TM W base g room seen l w) (hb : Below w.heap.size w w') : TM W base g room seen l w' := by
  have hbs := h.bs
  obtain ⟨A, n, c, T, I, B, hW⟩ := h
  exact ⟨A, n, c, T.step hb, I, B.trans (hb.mono hbs), hW⟩
theorem TM.drew (h : TM W base g room seen l w) : TM W base g room seen l w.drew := h.step (bdrew (Below.refl _ _))
theorem TM.alloc (h : TM W base g room seen l w) (o : Obj) : TM W base g room seen l (w.alloc o) := h.step (balloc (Below.refl _ _) _)
/-- A cell of a block of another kind is set. -/
theorem TM.set (h : TM W base g room seen l w) {b i : Nat} {t : TypeId} {cs : Array Value} (hB : Blk w b t cs) (hg : b ≠ g) (ht : t ≠ 52) (hb : base ≤ b) (v : Value) : TM W base g room seen l (w.setCell ⟨b, i, none⟩ v) := by
  obtain ⟨A, n, c, T, I, B, hW⟩ := h
  have hG : w.grownBy (w.setCell ⟨b, i, none⟩ v) (some b) := only_setCell (p := ⟨b, i, none⟩) (only_refl _ _) (.inl rfl) _
  exact ⟨A, n, c, ⟨T.blk.far (fun e => hg e.symm) v, ⟨T.its.own.kept hG (.inr (fun e => T.its.far hB ht e.symm))⟩, T.g0, T.rm, T.ln, T.sn, T.bd⟩, I, B.setCell hb _, hW⟩
theorem Far.refl (g : Nat) (w : World) : Far g w w := ⟨Nat.le_refl _, fun _ _ _ h _ _ => h⟩
theorem Far.of_below {g : Nat} (h : Below w.heap.size w w') : Far g w w' := ⟨h.size, fun _ _ _ hB _ _ => Blk.step h hB⟩
theorem tm_new (k : Nat) (h0 : 1 ≤ k) (h1 : k ≤ 16) (hB : Below base W w) (hb : base ≤ W.heap.size) : Calls Tryd.prog 21 #[.int .i64 k] w fun e w' => e = .returned (.tuple #[.pointer (some ⟨w.heap.size, 0, none⟩), .int .i64 0]) ∧ TM W base w.heap.size k 0 [] w' ∧ Below w.heap.size w w' := by
  have hbw : base ≤ w.heap.size := Nat.le_trans hb hB.size
  refine (new_yes k h0 h1 base w hbw).mono ?_
  rintro e w1 ⟨rfl, T, hb1, _⟩
  exact ⟨rfl, ⟨none, 0, 0, T, ⟨rfl, List.nodup_nil, Nat.zero_le _, Nat.zero_le _⟩, hB.trans (hb1.mono hbw), hb⟩, hb1⟩
theorem tm_add (nm : ByteArray) (by_ : Nat) (hby : by_ < 18446744073709551616) (hnm : nm.size ≤ 140737488355328) (h : TM W base g room seen l w) :
    Calls Tryd.prog 26 #[.pointer (some ⟨g, 0, none⟩), .string nm, .int .u64 by_] w fun e w' => e = .returned (.int .i64 (addE seen nm by_)) ∧ TM W base g room (stepS seen nm by_) (stepT room seen l nm by_) w' ∧ Far g w w' := by
  have hbs := h.bs
  obtain ⟨A, n, c, T, I, B, hW⟩ := h
  refine (add_call base g room seen A n c l nm by_ hby hnm w T I).mono ?_
  rintro e w1 ⟨rfl, A', n', c', T', hO, hN⟩
  refine ⟨rfl, ⟨A', n', c', T', I.step T.rm.1 nm by_, hO.below B hbs ?_, hW⟩, hO.size, ?_⟩
  · rintro i hi (rfl | h2)
    · have := T.g0; omega
    · have := (T.its.own.lt i h2.symm).1; omega
  · intro x t cs hB hx ht
    refine hO.blk hB ?_
    rintro (h1 | h1)
    · exact hx h1
    · exact T.its.far hB ht h1
theorem tm_items (h : TM W base g room seen l w) :
    Calls Tryd.prog 32 #[.pointer (some ⟨g, 0, none⟩)] w fun e w' => ∃ A' n c' s, e = .returned (.slice A' n c') ∧ Told l s ∧ Its w' w.heap.size A' n c' s ∧ TM W base g room seen l w' ∧ Below w.heap.size w w' := by
  have h' := h
  obtain ⟨A, n, c, T, I, B, hW⟩ := h
  refine (items_call T).mono ?_
  rintro e w1 ⟨A', c', s, rfl, hT, hI, hB⟩
  exact ⟨A', n, c', s, rfl, hT, hI, h'.step hB, hB⟩
theorem tm_seen (h : TM W base g room seen l w) : Calls Tryd.prog 31 #[.pointer (some ⟨g, 0, none⟩)] w fun e w' => e = .returned (.int .u64 seen) ∧ w' = w := by
  obtain ⟨A, n, c, T, I, B, hW⟩ := h
  exact seen_call T
end

theorem eqAI (d : Nat) (x y : ByteArray) (x1 y1 x2 y2 : Int) (w : World) :
    (Op.equalIn (d + 2) 52 (.agg #[.string x, .int .u64 x1, .int .u64 x2]) (.agg #[.string y, .int .u64 y1, .int .u64 y2])).run Tryd.prog w = .ok (x.toList == y.toList && (x1 == y1 && (x2 == y2 && true))) w := by
  refine struct_eq Tryd.underlying52 (by kernel_rfl) ?_
  refine fields_cons (by rfl) (by go_simp; rfl) (by go_simp; rfl) (by go_simp) ?_
  refine fields_cons (by rfl) (by go_simp; rfl) (by go_simp; rfl) (by go_simp) ?_
  exact fields_cons (by rfl) (by go_simp; rfl) (by go_simp; rfl) (by go_simp) fields_nil
theorem eqI (x y : ByteArray) (x1 y1 x2 y2 : Int) (w : World) :
    (Op.equalIn 10000 52 (.agg #[.string x, .int .u64 x1, .int .u64 x2]) (.agg #[.string y, .int .u64 y1, .int .u64 y2])).run Tryd.prog w = .ok (x.toList == y.toList && (x1 == y1 && (x2 == y2))) w := by
  have h := eqAI 9998 x y x1 y1 x2 y2 w
  rw [Bool.and_true] at h
  exact h
theorem guardI : Tryd.prog.eqGuardType Tryd.prog.depth 52 = false := by kernel_rfl

def itA3 : It := ⟨⟨#[97]⟩, 3, 0⟩
def itC2 : It := ⟨⟨#[99]⟩, 2, 1⟩
def itB1 : It := ⟨⟨#[98]⟩, 1, 0⟩
theorem ex_steps : addE 0 ⟨#[97]⟩ 3 = 0 ∧ addE 3 ⟨#[98]⟩ 1 = 0 ∧ addE 4 ⟨#[99]⟩ 1 = 0 ∧ addE 5 ⟨#[97]⟩ 0 = 1 := by decide
theorem ex_list : stepT 2 0 [] ⟨#[97]⟩ 3 = [itA3] ∧ stepT 2 3 [itA3] ⟨#[98]⟩ 1 = [itA3, itB1] ∧ stepT 2 4 [itA3, itB1] ⟨#[99]⟩ 1 = [itA3, itC2] ∧ leastT 2 [itA3, itC2] = 2 := by
  refine ⟨rfl, rfl, rfl, rfl⟩
theorem ex_told {s : List It} (h : Told [itA3, itC2] s) : s = [itA3, itC2] := by
  refine (Told.unique (l := [itA3, itC2]) ⟨List.Perm.refl _, ?_⟩ h (List.Perm.refl _) (by decide)).symm
  refine List.Pairwise.cons ?_ (List.Pairwise.cons (by intro a ha; cases ha) List.Pairwise.nil)
  intro a ha
  rw [List.mem_singleton] at ha
  subst ha
  rfl
end Go.Proofs.YtapiehddcdnadaaDoor

/- The document's quota in memory. -/
import Derived.Test.YtapiehddcdnadaaGreatDoorM15
import Derived.Test.YtapiehddcdnadaaGreatDoorM16
import Derived.Test.YtapiehddcdnadaaGreatDoorM6
namespace Go.Proofs.YtapiehddcdnadaaGreatDoor
open Go.RowKit
set_option linter.unusedVariables false
set_option linter.unusedSimpArgs false

/-- Blocks of other kinds than the document's quota's are as they were. -/
def FarR (w w' : World) : Prop := w.heap.size ≤ w'.heap.size ∧ ∀ h t cs, Blk w h t cs → t ≠ 50 → t ≠ 3 → t ≠ 54 → t ≠ 109 → Blk w' h t cs
section
variable {W w w1 w2 w' : World}
theorem FarR.refl (w : World) : FarR w w := ⟨Nat.le_refl _, fun _ _ _ h _ _ _ _ => h⟩
theorem FarR.trans (h : FarR w w1) (h2 : FarR w1 w2) : FarR w w2 := ⟨Nat.le_trans h.1 h2.1, fun g t cs hB a1 a2 a3 a4 => h2.2 g t cs (h.2 g t cs hB a1 a2 a3 a4) a1 a2 a3 a4⟩
theorem FarR.below (h : FarR w w1) (b : Below w1.heap.size w1 w2) : FarR w w2 := ⟨Nat.le_trans h.1 b.size, fun g t cs hB a1 a2 a3 a4 => Blk.step b (h.2 g t cs hB a1 a2 a3 a4)⟩
theorem FarR.grown (h : FarR w w1) {b : Nat} {t' : TypeId} {cs' : Array Value} (hb : Blk w1 b t' cs') (ht : t' = 50 ∨ t' = 3 ∨ t' = 54 ∨ t' = 109) (hG : w1.grownBy w2 (some b)) : FarR w w2 :=
  ⟨Nat.le_trans h.1 hG.size, fun g t cs hB a1 a2 a3 a4 => by
    have h1 := h.2 g t cs hB a1 a2 a3 a4
    refine Blk.grown hG h1 (fun e => ?_)
    injection e with e
    refine h1.ne_ hb ?_ e
    rcases ht with rfl | rfl | rfl | rfl
    · exact a1
    · exact a2
    · exact a3
    · exact a4⟩
theorem own_alike {base : Nat} {e : TypeId} {v : Value} {n : Nat} {xs : List Value} (hF : ∀ g cs, Blk w g e cs → Blk w' g e cs) (h : w.ownsRow base e 3 v n xs) : w'.ownsRow base e 3 v n xs := by
  refine ⟨h.1, ?_⟩
  rcases h.2 with h0 | ⟨q, cap, cur, hv, hq0, hq, rest⟩
  · exact .inl h0
  · exact .inr ⟨q, cap, cur, hv, hq0, hF q _ hq, rest⟩
theorem TM.alike {base g room seen : Nat} {l : List It} (h : TM W base g room seen l w) (hF : ∀ g t cs, t = 122 ∨ t = 75 → Blk w g t cs → Blk w' g t cs) (hB : Below base W w') : TM W base g room seen l w' := by
  obtain ⟨A, n, c, T, I, B, hb⟩ := h
  exact ⟨A, n, c, ⟨hF _ _ _ (.inl rfl) T.blk, ⟨own_alike (fun g cs => hF g _ cs (.inr rfl)) T.its.own⟩, T.g0, T.rm, T.ln, T.sn, T.bd⟩, I, hB, hb⟩
theorem RM.alike {base g room seen : Nat} {l : List It} (h : RM W base g room seen l w) (hF : ∀ g t cs, t = 54 ∨ t = 109 → Blk w g t cs → Blk w' g t cs) (hB : Below base W w') : RM W base g room seen l w' := by
  obtain ⟨A, n, c, T, I, B, hb⟩ := h
  exact ⟨A, n, c, ⟨hF _ _ _ (.inl rfl) T.blk, ⟨own_alike (fun g cs => hF g _ cs (.inr rfl)) T.its.own⟩, T.g0, T.rm, T.ln, T.sn, T.bd⟩, I, hB, hb⟩
/-- The program's quota stays when the document's turns. -/
theorem Qt.farR {g gn gb gt : Nat} {q : QS} (h : Qt W g gn gb gt q w) (hF : FarR w w') (hB : Below W.heap.size W w') : Qt W g gn gb gt q w' :=
  ⟨hF.2 _ _ _ h.blk (by decide) (by decide) (by decide) (by decide), ⟨hF.2 _ _ _ h.now.blk (by decide) (by decide) (by decide) (by decide), h.now.lo, h.now.hi, h.now.len, h.now.wf⟩, ⟨hF.2 _ _ _ h.bef.blk (by decide) (by decide) (by decide) (by decide), h.bef.lo, h.bef.hi, h.bef.len, h.bef.wf⟩, h.ne, h.tm.alike (fun g t cs ht hb => by rcases ht with rfl | rfl <;> exact hF.2 _ _ _ hb (by decide) (by decide) (by decide) (by decide)) hB, h.g0, h.gn0, h.gb0, h.win0, h.low0⟩
theorem QQ.farR {g : Nat} {q : QS} (h : QQ W g q w) (hF : FarR w w') (hB : Below W.heap.size W w') : QQ W g q w' := by
  obtain ⟨a, b, c, h⟩ := h
  exact ⟨a, b, c, h.farR hF hB⟩
theorem RM.grown {base h room seen : Nat} {l : List It} (H : RM W base h room seen l w) {b : Nat} {t : TypeId} {cs : Array Value} (hB : Blk w b t cs) (hg : t ≠ 54) (ht : t ≠ 109) (hb : base ≤ b) (hG : w.grownBy w' (some b)) : RM W base h room seen l w' := by
  have hbs := H.bs
  refine H.alike (fun g t' cs' h1 h2 => Blk.grown hG h2 (fun e => ?_)) (H.below.grown hG hbs (fun k hk => by injection hk with hk; omega))
  injection e with e
  refine h2.ne_ hB ?_ e
  rcases h1 with rfl | rfl
  · exact fun e => hg e.symm
  · exact fun e => ht e.symm
theorem rm_add_far {base h room s : Nat} {L : List It} (nm : ByteArray) (by_ : Nat) (hby : by_ < 18446744073709551616) (hl : nm.size ≤ 64) (H : RM W base h room s L w) :
    Calls Tryz.prog 65 #[.pointer (some ⟨h, 0, none⟩), .string nm, .int .u64 by_] w fun e w' => e = .returned (.int .i64 (addE s nm by_)) ∧ RM W base h room (stepS s nm by_) (stepT room s L nm by_) w' ∧ (∀ g t cs, Blk w g t cs → t ≠ 54 → t ≠ 109 → Blk w' g t cs) ∧ w.heap.size ≤ w'.heap.size := by
  have hbs := H.bs
  obtain ⟨A, n, c, R, I, hB, hW⟩ := H
  refine (radd_call base h room s A n c L nm by_ hby (by omega) w R I).mono ?_
  rintro e w1 ⟨rfl, A', n', c', R', hO, hN⟩
  refine ⟨rfl, ⟨A', n', c', R', I.step R.rm.1 nm by_, hO.below hB hbs ?_, hW⟩, fun g t cs hb h1 h2 => blk_keep hO (R.kinds.mono (by rintro t' (rfl | rfl); exact fun e => h1 e.symm; exact fun e => h2 e.symm)) hb, hO.size⟩
  rintro i hi (rfl | h2)
  · have := R.g0; omega
  · have := (R.its.own.lt i h2.symm).1; omega
end

/-- The document's quota q at g, while it turns: its two sketches may be of unlike bits, or one; since w0 all else is as it was. -/
structure Rw (W w0 : World) (g gn gb gt yn yb bn bb : Nat) (q : QS) (w : World) : Prop where
  blk : Blk w g 50 (quCells q gn gb gt)
  now : Rf w gn yn bn q.rn
  bef : Rf w gb yb bb q.rb
  tm : RM W W.heap.size gt q.room q.seen q.l w
  g0 : W.heap.size ≤ g
  yn0 : W.heap.size ≤ yn
  yb0 : W.heap.size ≤ yb
  win0 : 0 ≤ q.win ∧ q.win ≤ 9223372036854775807
  low0 : 0 ≤ q.low
  far : FarR w0 w
def RZ (W w0 : World) (g : Nat) (q : QS) (w : World) : Prop := ∃ gn gb gt yn yb, Rw W w0 g gn gb gt yn yb q.b q.b q w ∧ yn ≠ yb
section
variable {W w0 w w' w1 w2 w3 : World} {g gn gb gt yn yb bn bb : Nat} {q : QS}
theorem Rw.step (h : Rw W w0 g gn gb gt yn yb bn bb q w) (hb : Below w.heap.size w w') : Rw W w0 g gn gb gt yn yb bn bb q w' := ⟨Blk.step hb h.blk, Rf.step hb h.now, Rf.step hb h.bef, h.tm.step hb, h.g0, h.yn0, h.yb0, h.win0, h.low0, h.far.below hb⟩
theorem Rw.drew (h : Rw W w0 g gn gb gt yn yb bn bb q w) : Rw W w0 g gn gb gt yn yb bn bb q w.drew := h.step (bdrew (Below.refl _ _))
theorem Rw.below (h : Rw W w0 g gn gb gt yn yb bn bb q w) : Below W.heap.size W w := h.tm.below
theorem Rw.at0 (h : Rw W w0 g gn gb gt yn yb bn bb q w) : Rw W w g gn gb gt yn yb bn bb q w := ⟨h.blk, h.now, h.bef, h.tm, h.g0, h.yn0, h.yb0, h.win0, h.low0, FarR.refl w⟩
theorem Rw.c0 (h : Rw W w0 g gn gb gt yn yb bn bb q w) : w.cell? ⟨g, 0, none⟩ = some (.int .i64 q.win) := h.blk.cellAt 0 rfl
theorem Rw.c1 (h : Rw W w0 g gn gb gt yn yb bn bb q w) : w.cell? ⟨g, 1, none⟩ = some (.pointer (some ⟨gn, 0, none⟩)) := h.blk.cellAt 1 rfl
theorem Rw.c2 (h : Rw W w0 g gn gb gt yn yb bn bb q w) : w.cell? ⟨g, 2, none⟩ = some (.pointer (some ⟨gb, 0, none⟩)) := h.blk.cellAt 2 rfl
theorem Rw.c3 (h : Rw W w0 g gn gb gt yn yb bn bb q w) : w.cell? ⟨g, 3, none⟩ = some (.bool q.closed) := h.blk.cellAt 3 rfl
theorem Rw.c4 (h : Rw W w0 g gn gb gt yn yb bn bb q w) : w.cell? ⟨g, 4, none⟩ = some (.int .u64 q.low) := h.blk.cellAt 4 rfl
theorem Rw.c5 (h : Rw W w0 g gn gb gt yn yb bn bb q w) : w.cell? ⟨g, 5, none⟩ = some (.int .u64 q.high) := h.blk.cellAt 5 rfl
theorem Rw.c6 (h : Rw W w0 g gn gb gt yn yb bn bb q w) : w.cell? ⟨g, 6, none⟩ = some (.pointer (some ⟨gt, 0, none⟩)) := h.blk.cellAt 6 rfl
/-- A cell of the quota's own block is set; the sketches and the top are said anew. -/
theorem Rw.store (h : Rw W w0 g gn gb gt yn yb bn bb q w) {i : Nat} {v : Value} {q' : QS} {gn' gb' gt' yn' yb' bn' bb' : Nat} (hc : (quCells q gn gb gt).setIfInBounds i v = quCells q' gn' gb' gt')
    (hN : Rf w gn' yn' bn' q'.rn) (hB : Rf w gb' yb' bb' q'.rb) (hT : RM W W.heap.size gt' q'.room q'.seen q'.l w) (y0 : W.heap.size ≤ yn') (y1 : W.heap.size ≤ yb') (e7 : 0 ≤ q'.win ∧ q'.win ≤ 9223372036854775807) (e8 : 0 ≤ q'.low) : Rw W w0 g gn' gb' gt' yn' yb' bn' bb' q' (w.setCell ⟨g, i, none⟩ v) := by
  have hG : w.grownBy (w.setCell ⟨g, i, none⟩ v) (some g) := only_set _ _ _ _
  have hb := h.blk.put i v
  rw [hc] at hb
  have k1 := hN.blk.ne_ h.blk (by decide)
  have k2 := hN.row.ne_ h.blk (by decide)
  have k3 := hB.blk.ne_ h.blk (by decide)
  have k4 := hB.row.ne_ h.blk (by decide)
  exact ⟨hb, hN.grown hG (by intro e; injection e with e; exact k1 e) (by intro e; injection e with e; exact k2 e), hB.grown hG (by intro e; injection e with e; exact k3 e) (by intro e; injection e with e; exact k4 e), hT.grown h.blk (by decide) (by decide) h.g0 hG, h.g0, y0, y1, e7, e8, h.far.grown h.blk (.inl rfl) hG⟩
theorem Rw.gate' (h : Rw W w0 g gn gb gt yn yb bn bb q w) (c : Bool) (lo hi : Int) (hlo : 0 ≤ lo) : Rw W w0 g gn gb gt yn yb bn bb { q with closed := c, low := lo, high := hi } (((w.setCell ⟨g, 3, none⟩ (.bool c)).setCell ⟨g, 4, none⟩ (.int .u64 lo)).setCell ⟨g, 5, none⟩ (.int .u64 hi)) := by
  have h1 := h.store (i := 3) (v := .bool c) (q' := { q with closed := c }) rfl h.now h.bef h.tm h.yn0 h.yb0 h.win0 h.low0
  have h2 := h1.store (i := 4) (v := .int .u64 lo) (q' := { q with closed := c, low := lo }) rfl h1.now h1.bef h1.tm h1.yn0 h1.yb0 h1.win0 hlo
  exact h2.store (i := 5) (v := .int .u64 hi) (q' := { q with closed := c, low := lo, high := hi }) rfl h2.now h2.bef h2.tm h2.yn0 h2.yb0 h2.win0 hlo
theorem Rw.win' (h : Rw W w0 g gn gb gt yn yb bn bb q w) (v : Int) (hv : 0 ≤ v ∧ v ≤ 9223372036854775807) : Rw W w0 g gn gb gt yn yb bn bb { q with win := v } (w.setCell ⟨g, 0, none⟩ (.int .i64 v)) :=
  h.store (q' := { q with win := v }) rfl h.now h.bef h.tm h.yn0 h.yb0 hv h.low0
/-- The new sketch alone has turned. -/
theorem Rw.now' (h : Rw W w0 g gn gb gt yn yb bn bb q w) (ne : yn ≠ yb) {r : List Int} (hS : Rf w' gn yn bn r) (hG : w.grownBy w' (some yn)) : Rw W w0 g gn gb gt yn yb bn bb { q with rn := r } w' := by
  have k1 := h.now.row.ne_ h.blk (by decide)
  have k3 := h.now.row.ne_ h.bef.blk (by decide)
  exact ⟨Blk.grown hG h.blk (by intro e; injection e with e; exact k1 e.symm), hS, h.bef.grown hG (by intro e; injection e with e; exact k3 e.symm) (by intro e; injection e with e; exact ne e.symm), h.tm.grown h.now.row (by decide) (by decide) h.yn0 hG, h.g0, h.yn0, h.yb0, h.win0, h.low0, h.far.grown h.now.row (.inr (.inl rfl)) hG⟩
/-- The top alone has turned. -/
theorem Rw.top' (h : Rw W w0 g gn gb gt yn yb bn bb q w) {seen : Nat} {l : List It} (hT : RM W W.heap.size gt q.room seen l w') (hF : ∀ g t cs, Blk w g t cs → t ≠ 54 → t ≠ 109 → Blk w' g t cs) (hs : w.heap.size ≤ w'.heap.size) : Rw W w0 g gn gb gt yn yb bn bb { q with seen := seen, l := l } w' :=
  ⟨hF _ _ _ h.blk (by decide) (by decide), ⟨hF _ _ _ h.now.blk (by decide) (by decide), hF _ _ _ h.now.row (by decide) (by decide), h.now.lo, h.now.hi, h.now.len, h.now.wf⟩, ⟨hF _ _ _ h.bef.blk (by decide) (by decide), hF _ _ _ h.bef.row (by decide) (by decide), h.bef.lo, h.bef.hi, h.bef.len, h.bef.wf⟩, hT, h.g0, h.yn0, h.yb0, h.win0, h.low0, h.far.trans ⟨hs, fun g t cs hb _ _ a3 a4 => hF g t cs hb a3 a4⟩⟩
/-- The document's quota stays when the program's turns. -/
theorem Rw.farQ (h : Rw W w0 g gn gb gt yn yb bn bb q w) (hF : FarQ w w') (hB : Below W.heap.size W w') : Rw W w' g gn gb gt yn yb bn bb q w' :=
  ⟨hF.2 _ _ _ h.blk (by decide) (by decide) (by decide) (by decide), ⟨hF.2 _ _ _ h.now.blk (by decide) (by decide) (by decide) (by decide), hF.2 _ _ _ h.now.row (by decide) (by decide) (by decide) (by decide), h.now.lo, h.now.hi, h.now.len, h.now.wf⟩, ⟨hF.2 _ _ _ h.bef.blk (by decide) (by decide) (by decide) (by decide), hF.2 _ _ _ h.bef.row (by decide) (by decide) (by decide) (by decide), h.bef.lo, h.bef.hi, h.bef.len, h.bef.wf⟩, h.tm.alike (fun g t cs ht hb => by rcases ht with rfl | rfl <;> exact hF.2 _ _ _ hb (by decide) (by decide) (by decide) (by decide)) hB, h.g0, h.yn0, h.yb0, h.win0, h.low0, FarR.refl w'⟩
theorem RZ.farQ (h : RZ W w0 g q w) (hF : FarQ w w') (hB : Below W.heap.size W w') : RZ W w' g q w' := by
  obtain ⟨a, b, c, d, e, h, hne⟩ := h
  exact ⟨a, b, c, d, e, h.farQ hF hB, hne⟩
theorem RZ.far (h : RZ W w0 g q w) : FarR w0 w := by
  obtain ⟨a, b, c, d, e, h, hne⟩ := h
  exact h.far
theorem RZ.below (h : RZ W w0 g q w) : Below W.heap.size W w := by
  obtain ⟨a, b, c, d, e, h, hne⟩ := h
  exact h.below
theorem RZ.step (h : RZ W w0 g q w) (hb : Below w.heap.size w w') : RZ W w0 g q w' := by
  obtain ⟨a, b, c, d, e, h, hne⟩ := h
  exact ⟨a, b, c, d, e, h.step hb, hne⟩
theorem RZ.at0 (h : RZ W w0 g q w) : RZ W w g q w := by
  obtain ⟨a, b, c, d, e, h, hne⟩ := h
  exact ⟨a, b, c, d, e, h.at0, hne⟩
end
end Go.Proofs.YtapiehddcdnadaaGreatDoor

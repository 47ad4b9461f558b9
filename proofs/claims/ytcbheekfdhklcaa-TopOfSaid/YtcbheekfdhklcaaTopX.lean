/- The reference's top in memory. -/
import Derived.Test.YtcbheekfdhklcaaTopMa
namespace Go.Proofs.Ytcbheekfdhklcaa
open Go.RowKit
set_option linter.unusedVariables false
set_option linter.unusedSimpArgs false

/-- The row of items at A. -/
structure RIts (w : World) (base : Nat) (A : Option Addr) (n c : Nat) (l : List It) : Prop where
  own : w.ownsRow base 52 3 (.slice A n c) n (flat l)

section
variable {w w' : World} {base : Nat} {A : Option Addr} {n c : Nat} {l : List It}
theorem RIts.len (h : RIts w base A n c l) : l.length = n := by
  have := h.own.1
  rw [flat_len] at this
  omega
theorem RIts.nil : RIts w base none 0 0 [] := ⟨World.ownsRow_nil w base _ 3⟩
theorem RIts.row (h : RIts w base A n c l) (hn : 0 < n) : ∃ g, A = some ⟨g, 0, none⟩ ∧ base ≤ g ∧ g < w.heap.size ∧ n ≤ c ∧ ∀ i, i < n → w.cell? ⟨g, i * 3, none⟩ = some (.string (l.getD i default).name) ∧ w.cell? ⟨g, i * 3 + 1, none⟩ = some (.int .u64 (l.getD i default).many) ∧ w.cell? ⟨g, i * 3 + 2, none⟩ = some (.int .u64 (l.getD i default).over) := by
  have hl := h.len
  rcases h.own.2 with ⟨e1, e2⟩ | ⟨g, cap, cur, e1, hb, hg, hnc, hcm, hcs, ht⟩
  · omega
  · injection e1 with h0 h1 h2
    subst h0
    have hc := h.own.cells (g := g) rfl
    have hx := fun i (hi : i < n) j (hj : j < 3) => hc (i * 3 + j)
    refine ⟨g, rfl, hb, ?_, by omega, fun i hi => ⟨?_, ?_, ?_⟩⟩
    · rcases Nat.lt_or_ge g w.heap.size with h3 | h3
      · exact h3
      · rw [Array.getElem?_eq_none h3] at hg; cases hg
    · have := hc (i * 3 + 0) _ ((flat_get l i 0 (by omega) (by omega)).trans rfl)
      rw [addr_add] at this
      simpa using this
    · have := hc (i * 3 + 1) _ ((flat_get l i 1 (by omega) (by omega)).trans rfl)
      rw [addr_add] at this
      simpa using this
    · have := hc (i * 3 + 2) _ ((flat_get l i 2 (by omega) (by omega)).trans rfl)
      rw [addr_add] at this
      simpa using this
end

/-- A block of another element type is not the row. -/
theorem RIts.far {w : World} {base : Nat} {A : Option Addr} {n c : Nat} {l : List It} (h : RIts w base A n c l) {g : Nat} {t : TypeId} {cs : Array Value} (B : Blk w g t cs) (ht : t ≠ 52) : some g ≠ Value.ownBlock (.slice A n c) := by
  rcases h.own.2 with ⟨e1, _⟩ | ⟨r, cap, cur, e1, _, hg, _⟩ <;> rw [e1]
  · simp [Value.ownBlock]
  · intro e
    simp [Value.ownBlock] at e
    subst e
    unfold Blk at B
    rw [hg] at B
    injection B with B
    injection B with _ h2
    exact ht h2.symm

/-- The top at g. -/
structure Rp (w : World) (base g : Nat) (room seen : Nat) (A : Option Addr) (n c : Nat) (l : List It) : Prop where
  blk : Blk w g 50 #[.slice A n c, .int .i64 room, .int .u64 seen]
  its : RIts w base A n c l
  g0 : base ≤ g
  rm : 1 ≤ room ∧ room ≤ 16
  ln : n ≤ room
  sn : seen ≤ 4611686018427387904
  bd : ∀ x ∈ l, x.many ≤ 4611686018427387904 ∧ x.over ≤ 4611686018427387904


theorem Rp.seen' {w : World} {base g room seen : Nat} {A : Option Addr} {n c : Nat} {l : List It} (T : Rp w base g room seen A n c l) (s : Nat) (hs : s ≤ 4611686018427387904) :
    Rp (w.setCell ⟨g, 2, none⟩ (.int .u64 s)) base g room s A n c l ∧ Only w (w.setCell ⟨g, 2, none⟩ (.int .u64 s)) (fun i => i = g) := by
  have hg : w.grownBy (w.setCell ⟨g, 2, none⟩ (.int .u64 s)) (some g) := only_setCell (only_refl _ _) (.inl rfl) _
  refine ⟨⟨T.blk.put 2 _, ⟨T.its.own.kept hg (.inr (fun e => T.its.far T.blk (by decide) e.symm))⟩, T.g0, T.rm, T.ln, hs, T.bd⟩, ?_⟩
  exact Only.of_grown hg (fun i hi => by cases hi; rfl)
theorem Rp.many' {w : World} {base g room seen r : Nat} {n c : Nat} {l : List It} (T : Rp w base g room seen (some ⟨r, 0, none⟩) n c l) (k : Nat) (hk : k < n) (v : Nat) (hv : v ≤ 4611686018427387904) :
    Rp (w.setCell ⟨r, k * 3 + 1, none⟩ (.int .u64 v)) base g room seen (some ⟨r, 0, none⟩) n c (l.set k ⟨(l.getD k default).name, v, (l.getD k default).over⟩) ∧ Only w (w.setCell ⟨r, k * 3 + 1, none⟩ (.int .u64 v)) (fun i => i = r) := by
  have hln := T.its.len
  obtain ⟨o, hg⟩ := T.its.own.stored (k * 3 + 1) (.int .u64 v)
  refine ⟨⟨T.blk.grown hg (by simpa [Value.ownBlock] using T.its.far T.blk (by decide)), ⟨by rw [← flat_many l k v (by omega)]; exact o⟩, T.g0, T.rm, T.ln, T.sn, ?_⟩, Only.of_grown hg (fun i hi => by cases hi; rfl)⟩
  intro x hx
  rcases mem_set_it (by omega) hx with rfl | ⟨q, hq, _, rfl⟩
  · refine ⟨hv, ?_⟩
    rw [it_get l k (by omega)]
    exact (T.bd _ (List.getElem_mem _)).2
  · exact T.bd _ (List.getElem_mem _)


theorem RIts.step {w w' : World} {base : Nat} {A : Option Addr} {n c : Nat} {l : List It} (h : RIts w base A n c l) (hb : Below w.heap.size w w') : RIts w' base A n c l :=
  ⟨h.own.kept (only_of_below hb none) (by rcases Value.ownBlock (.slice A n c) with _ | z; exact .inl rfl; exact .inr (by simp))⟩

set_option maxHeartbeats 1000000 in
theorem rclear_call {base g room seen : Nat} {A : Option Addr} {n c : Nat} {l : List It} {w : World} (T : Rp w base g room seen A n c l) :
    Calls Try.prog 25 #[.pointer (some ⟨g, 0, none⟩)] w fun e w' => e = .returned (.tuple #[]) ∧ Rp w' base g room 0 none 0 0 [] ∧ Only w w' (fun i => i = g) := by
  have c0 : w.cell? ⟨g, 0, none⟩ = some (.slice A n c) := T.blk.cellAt 0 rfl
  have c2 : w.cell? ⟨g, 2, none⟩ = some (.int .u64 seen) := T.blk.cellAt 2 rfl
  have f0 := T.blk.frozen 0
  have f2 := T.blk.frozen 2
  have f2' := (T.blk.put 0 (.slice none 0 0)).frozen 2
  have hlt := T.blk.lt
  have hB : Blk ((w.setCell ⟨g, 0, none⟩ (.slice none 0 0)).setCell ⟨g, 2, none⟩ (.int .u64 0)) g 50 #[.slice none 0 0, .int .i64 room, .int .u64 0] := (T.blk.put 0 (.slice none 0 0)).put 2 (.int .u64 0)
  have hG : w.grownBy ((w.setCell ⟨g, 0, none⟩ (.slice none 0 0)).setCell ⟨g, 2, none⟩ (.int .u64 0)) (some g) := only_setCell (p := ⟨g, 2, none⟩) (only_setCell (p := ⟨g, 0, none⟩) (only_refl _ _) (.inl rfl) _) (.inl rfl) _
  go_enter Try.func25, Try.ntmps25
  go_wp2_with fail
  go_end0
  exact ⟨rfl, ⟨hB, RIts.nil, T.g0, T.rm, Nat.zero_le _, Nat.zero_le _, fun x hx => by cases hx⟩, Only.of_grown hG (fun i hi => by cases hi; rfl)⟩


end Go.Proofs.Ytcbheekfdhklcaa

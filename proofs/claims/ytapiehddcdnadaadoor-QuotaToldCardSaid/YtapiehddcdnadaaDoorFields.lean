/- What an argument that is a slice of structs gives: each field of each element where it lies, with its own reading. Plain lemmas; no program in sight. -/
import Derived.Test.YtapiehddcdnadaaDoorRow
import Derived.Deep.Slices
import Derived.Deep.Fields
import Derived.ChangeSame
namespace Go.Proofs.YtapiehddcdnadaaDoor
open Go.RowKit Go.ChangeShapes Go.WideShapes Go.ChangeAt Go.Deep
set_option linter.unusedVariables false
set_option linter.unusedSimpArgs false

section
variable {H : Type} {enc : TypeId × Value → H} {P : Program} {W : World} {base : Nat} {held : Bool}
theorem fields_open {t e : TypeId} {fs : Array Field} {d : DataW H} {ps : List MemPlace} (hu : P.underlying t = some (.slice e)) (he : P.underlying e = some (.struct fs)) (hone : oneCellFields P fs = true) (hC : P.cellsOf e = fs.size) (h0 : 0 < fs.size)
    {a0 : Option Addr} {n c : Nat} (h : DataW.Trod enc P W base (fun _ => true) held t (.slice a0 n c) d ps) :
    n ≤ c ∧ c ≤ maxLen ∧ (0 < n → ∃ b off, a0 = some ⟨b, off, none⟩ ∧ b < W.heap.size ∧
      ∀ i, i < n → ∀ j f, fs[j]? = some f → ∃ u k z, W.cell? ⟨b, off + (i * fs.size + j), none⟩ = some u ∧ DataW.trod enc P W base (fun _ => true) held k f.type [u] = some z) := by
  obtain ⟨fuel, hf⟩ := h
  rcases open_slice hu hf with ⟨hcs, _⟩ | ⟨a, len, cap, m, k, D, Pl, hcs, _, hl, hm, hmm, _, hi⟩
  · simp [Value.cells] at hcs
    obtain ⟨rfl, rfl, rfl⟩ := hcs
    exact ⟨Nat.le_refl _, Nat.zero_le _, fun h => absurd h (by omega)⟩
  · simp [Value.cells] at hcs
    obtain ⟨rfl, rfl, rfl⟩ := hcs
    refine ⟨hl, hm, fun hn => ?_⟩
    -- one element's fields, at the slice's own address
    have hel : ∀ i, i < n → ∀ j f, fs[j]? = some f → ∃ u k z, W.cell? (a.add (i * fs.size + j)) = some u ∧ DataW.trod enc P W base (fun _ => true) held k f.type [u] = some z := by
      intro i hin j f hj
      obtain ⟨cs, hc, ht⟩ := hi i (by rw [hmm]; split <;> omega)
      rw [hC] at hc
      obtain ⟨ys, fuel', _, _, _, _, hg⟩ := DataW.trod_struct he ht
      obtain ⟨_, hlen, hat⟩ := World.cells?_some hc
      obtain ⟨ho, hk⟩ := hone_of hone j f hj
      have hjs : j < fs.size := (Array.getElem?_eq_some_iff.1 hj).1
      have hjc : j < cs.length := by omega
      have h1 := hg j f hj
      have e1 : (cs.drop j).take 1 = [cs[j]] := by rw [List.drop_eq_getElem_cons hjc]; rfl
      rw [ho, hk, e1] at h1
      have h2 := hat j hjs
      rw [add_add, List.getElem?_eq_getElem hjc] at h2
      cases hy : ys[j]? with
      | none => rw [hy] at h1; exact absurd (List.getElem?_eq_none_iff.1 hy) (by simp at *; omega)
      | some z => rw [hy] at h1; exact ⟨cs[j], fuel', z, h2, h1⟩
    obtain ⟨b, off, spot⟩ := a
    obtain ⟨f0, hf0⟩ : ∃ f, fs[0]? = some f := ⟨fs[0], Array.getElem?_eq_getElem h0⟩
    obtain ⟨u0, _, _, hu0, _⟩ := hel 0 hn 0 f0 hf0
    have hspot : spot = none := by simpa [Addr.add] using World.cell?_spot hu0
    subst hspot
    refine ⟨b, off, rfl, ?_, fun i hin j f hj => ?_⟩
    · have := cell_lt hu0
      simpa [Addr.add] using this
    · obtain ⟨u, y, q, h1, h2⟩ := hel i hin j f hj
      rw [Go.WideShapes.add_plain] at h1
      exact ⟨u, y, q, h1, h2⟩
end
end Go.Proofs.YtapiehddcdnadaaDoor

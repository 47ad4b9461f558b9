/- Rows of counts and of marks; names of one letter. -/
import Derived.Test.YtapiehddcdnadaaDoorTopJ
import Derived.Test.YtapiehddcdnadaaDoorTopL
import Derived.StillTailTactics
namespace Go.Proofs.YtapiehddcdnadaaDoor
open Go.RowKit
set_option linter.unusedVariables false
set_option linter.unusedSimpArgs false

theorem addE_ok {seen : Nat} {nm : ByteArray} {n : Nat} (h1 : nm.size ≤ 64) (h2 : n ≠ 0) (h3 : n ≤ 4611686018427387904 - seen) : addE seen nm n = 0 := by
  unfold addE
  rw [if_neg (by rw [not_or]; exact ⟨by omega, h2⟩), if_neg (by omega)]
theorem Ints.b8 {w : World} {a : Option Addr} {n : Nat} {xs : List Int} (h : Ints .u8 w a n xs) : ∀ v ∈ xs, 0 ≤ v ∧ v ≤ 255 := fun v hv => bounds_u8 (h.wf v hv)
/-- A row of 26 counts. -/
def arrU (m : Nat) (R : Nat → Nat) : Array Value := ((List.range m).map fun c => Value.int .u64 (R c)).toArray
theorem arrU_get (m : Nat) (R : Nat → Nat) (c : Nat) (h : c < m) : (arrU m R)[c]? = some (.int .u64 (R c)) := by simp [arrU, h]
theorem arrU_set (m : Nat) (R R' : Nat → Nat) (c : Nat) (v : Nat) (h : ∀ d, d < m → R' d = if d = c then v else R d) : (arrU m R).setIfInBounds c (.int .u64 v) = arrU m R' := by
  apply Array.ext
  · simp [arrU]
  · intro i h1 h2
    have hi : i < m := by simpa [arrU] using h2
    rw [Array.getElem_setIfInBounds (by simpa [arrU] using hi)]
    have := h i hi
    by_cases e : c = i
    · subst e; simp [arrU, this]
    · rw [if_neg e]
      rw [if_neg (fun e2 => e e2.symm)] at this
      simp [arrU, this]

/-- A row of 26 marks. -/
def arrB (m : Nat) (f : Nat → Bool) : Array Value := ((List.range m).map fun c => Value.bool (f c)).toArray
theorem arrB_get (m : Nat) (f : Nat → Bool) (c : Nat) (h : c < m) : (arrB m f)[c]? = some (.bool (f c)) := by simp [arrB, h]
theorem arrB_set (m : Nat) (f f' : Nat → Bool) (c : Nat) (v : Bool) (h : ∀ d, d < m → f' d = if d = c then v else f d) : (arrB m f).setIfInBounds c (.bool v) = arrB m f' := by
  apply Array.ext
  · simp [arrB]
  · intro i h1 h2
    have hi : i < m := by simpa [arrB] using h2
    rw [Array.getElem_setIfInBounds (by simpa [arrB] using hi)]
    have := h i hi
    by_cases e : c = i
    · subst e; simp [arrB, this]
    · rw [if_neg e]
      rw [if_neg (fun e2 => e e2.symm)] at this
      simp [arrB, this]
def toldB (s : List It) (q c : Nat) : Bool := (s.take q).any fun x => x.name.data.toList == nml c
theorem Its.step {w w' : World} {base : Nat} {A : Option Addr} {n c : Nat} {l : List It} (h : Its w base A n c l) (hb : Below w.heap.size w w') : Its w' base A n c l :=
  ⟨h.own.kept (only_of_below hb none) (by rcases Value.ownBlock (.slice A n c) with _ | z; exact .inl rfl; exact .inr (by simp))⟩
theorem Its.alloc {w : World} {base : Nat} {A : Option Addr} {n c : Nat} {l : List It} (h : Its w base A n c l) (o : Obj) : Its (w.alloc o) base A n c l := h.step (balloc (Below.refl _ _) _)

def sumQ (s : List It) (q : Nat) : Nat := ((s.take q).map (·.many)).sum
theorem sumQ_succ (s : List It) (q : Nat) (h : q < s.length) : sumQ s (q + 1) = sumQ s q + (s.getD q default).many := by
  unfold sumQ
  rw [List.take_succ_eq_append_getElem h, it_get s q h, List.map_append, List.sum_append]
  rfl
theorem sumQ_le (s : List It) (q : Nat) : sumQ s q ≤ (s.map (·.many)).sum := by
  unfold sumQ
  have h : ((s.take q ++ s.drop q).map (·.many)).sum = (s.map (·.many)).sum := by rw [List.take_append_drop]
  rw [List.map_append, List.sum_append] at h
  omega
theorem sumQ_all (s : List It) (q : Nat) (h : s.length ≤ q) : sumQ s q = (s.map (·.many)).sum := by
  unfold sumQ
  rw [List.take_of_length_le h]
theorem nm_b (c : Nat) (hc : c < 26) (h : 0 < (nmOf c).size) : ((nmOf c)[0]'h).toNat = 97 + c := by
  have e : (nmOf c)[0]'h = UInt8.ofNat (97 + c) := rfl
  rw [e]
  simp
  omega
theorem conv1 (W : World) (b c : Nat) (B : Blk W b 5 #[.int .u8 (97 + (c : Int))]) : (convert 39 9 (.slice (some ⟨b, 0, none⟩) 1 1)).run Tryd.prog W = .ok (.string (nmOf c)) W := by
  have h := run_convert_bytes_arg (P := Tryd.prog) W 39 5 Tryd.underlying39 Tryd.underlying5 b 0 1 1 [(97 + (c : Int))] rfl (fun i hi => by
    obtain rfl : i = 0 := by omega
    exact B.cellAt 0 rfl) 9 Tryd.underlying9
  have e : nmOf c = strOfNums [(97 + (c : Int))] := by unfold nmOf; rw [Int.natCast_add]; rfl
  rw [e]
  exact h

end Go.Proofs.YtapiehddcdnadaaDoor

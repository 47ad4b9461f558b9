/- QuotaOf, of the arguments as the row opens them. -/
import Derived.Test.YtapiehddcdnadaaGreatDoorQuZ2b
import Derived.Test.YtapiehddcdnadaaGreatDoorM16
namespace Go.Proofs.YtapiehddcdnadaaGreatDoor
open Go.RowKit Go.ChangeShapes Go.WideShapes Go.ChangeAt Go.Deep
set_option linter.unusedVariables false
theorem array6 {α : Type} {cs : Array α} (h : cs.size = 6) : ∃ a0 a1 a2 a3 a4 a5, cs = #[a0, a1, a2, a3, a4, a5] := by
  obtain ⟨l⟩ := cs
  match l, h with
  | [a0, a1, a2, a3, a4, a5], _ => exact ⟨a0, a1, a2, a3, a4, a5, rfl⟩
set_option maxRecDepth 100000 in
theorem state_open {H : Type} {enc : TypeId × Value → H} {W : World} {base : Nat} {held : Bool} {r : Reach} {b0 : Nat} {v : Value} {d : DataW H} {ps : List MemPlace} (hv : Value.okWide Tryz.prog W r b0 59 v) (h : DataW.Trod enc Tryz.prog W base (fun _ => true) held 59 v d ps)
    (hw : ∀ n ∈ DataW.weights Tryz.prog 59 d, n ≤ reachBytes) :
    ∃ (win : Int) (closed : Bool) (s1 s2 : ByteArray) (seen : Nat) (sa : Option Addr) (sn sc : Nat) (sl : List It), v = stV win closed s1 s2 seen sa sn sc ∧ win ≤ 9223372036854775807 ∧ s1.size ≤ 9223372036854775807 ∧ s2.size ≤ 9223372036854775807 ∧ seen < 18446744073709551616 ∧ ItRow W sa sn sl ∧ sn ≤ sc ∧ sn ≤ 4398046511103 ∧ Bd sl := by
  obtain ⟨cs, rfl, hsz⟩ := okWide_struct Tryz.underlying59 hv
  obtain ⟨a0, a1, a2, a3, a4, a5, rfl⟩ := array6 (hsz.trans (by kernel_rfl))
  obtain ⟨fuel, hf⟩ := h
  obtain ⟨ys, fuel', _, hx, _, hlen, hg⟩ := DataW.trod_struct Tryz.underlying59 hf
  obtain ⟨hd, _⟩ := Prod.mk.inj hx
  have hl6 : ys.length = 6 := hlen
  have get : ∀ i, i < 6 → ∃ z, ys[i]? = some z := fun i hi => ⟨_, List.getElem?_eq_getElem (by omega)⟩
  obtain ⟨z0, e0⟩ := get 0 (by omega)
  obtain ⟨z1, e1⟩ := get 1 (by omega)
  obtain ⟨z2, e2⟩ := get 2 (by omega)
  obtain ⟨z3, e3⟩ := get 3 (by omega)
  obtain ⟨z4, e4⟩ := get 4 (by omega)
  obtain ⟨z5, e5⟩ := get 5 (by omega)
  have g0 : DataW.trod enc Tryz.prog W base (fun _ => true) held fuel' 2 [a0] = some z0 := (hg 0 _ rfl).trans e0
  have g1 : DataW.trod enc Tryz.prog W base (fun _ => true) held fuel' 4 [a1] = some z1 := (hg 1 _ rfl).trans e1
  have g2 : DataW.trod enc Tryz.prog W base (fun _ => true) held fuel' 9 [a2] = some z2 := (hg 2 _ rfl).trans e2
  have g3 : DataW.trod enc Tryz.prog W base (fun _ => true) held fuel' 9 [a3] = some z3 := (hg 3 _ rfl).trans e3
  have g4 : DataW.trod enc Tryz.prog W base (fun _ => true) held fuel' 31 [a4] = some z4 := (hg 4 _ rfl).trans e4
  have g5 : DataW.trod enc Tryz.prog W base (fun _ => true) held fuel' 57 [a5] = some z5 := (hg 5 _ rfl).trans e5
  obtain ⟨x0, rfl, w0⟩ := read_int Tryz.underlying2 g0
  obtain ⟨x1, rfl⟩ := read_bool Tryz.underlying4 g1
  obtain ⟨x2, rfl, w2⟩ := read_str Tryz.underlying9 g2
  obtain ⟨x3, rfl, w3⟩ := read_str Tryz.underlying9 g3
  obtain ⟨x4, rfl, w4⟩ := read_int Tryz.underlying31 g4
  have b0' := bounds_i64 w0
  have b4 := bounds_u64 w4
  have hsl : ∃ A n c, a5 = .slice A n c := by
    rcases DataW.trod_slice Tryz.underlying57 g5 with ⟨k, _⟩ | ⟨a, len, cap, _, _, _, _, k, _⟩
    · injection k with k _; exact ⟨_, _, _, k⟩
    · injection k with k _; exact ⟨_, _, _, k⟩
  obtain ⟨sa, sn, sc, rfl⟩ := hsl
  have hT5 : DataW.Trod enc Tryz.prog W base (fun _ => true) held 57 (.slice sa sn sc) z5.1 z5.2 := ⟨fuel', g5⟩
  have hall : (DataW.weightsEach Tryz.prog [2, 4, 9, 9, 31, 57] (ys.map (·.1))).all (· ≤ reachBytes) = true := by
    rw [List.all_eq_true]
    intro n hn
    refine decide_eq_true (hw n ?_)
    rw [hd]
    simp only [DataW.weights, Tryz.underlying59]
    exact hn
  have hy : sn * 32 ≤ 140737488351232 := sl_sized hall (j := 5) (t := 57) rfl (by rw [List.getElem?_map, e5]; rfl) Tryz.underlying57 (by kernel_rfl) hT5
  obtain ⟨l, i1, i2, i3, i4⟩ := items_open hy hT5
  refine ⟨x0, x1, x2, x3, x4.toNat, sa, sn, sc, l, ?_, b0'.2, w2, w3, by omega, i1, i2, i3, i4⟩
  unfold stV
  rw [Int.toNat_of_nonneg b4.1]
set_option maxRecDepth 100000 in
theorem quotaOf_row {H : Type} {enc : TypeId × Value → H} {held held' : Bool} {r r' : Reach} {b0 b0' base base' : Nat} {d d' : DataW H} {ps ps' : List MemPlace} (v v' : Value) (own : Bool) (how : Int) (a2 : Option Addr) (n2 c2 : Nat) (ys : List Int) (w : World) (hv : Value.okWide Tryz.prog w r b0 27 v) (hr : DataW.Trod enc Tryz.prog w base (fun _ => true) held 27 v d ps)
    (hv' : Value.okWide Tryz.prog w r' b0' 59 v') (hr' : DataW.Trod enc Tryz.prog w base' (fun _ => true) held' 59 v' d' ps') (hs : ∀ n ∈ DataW.weights Tryz.prog 59 d', n ≤ reachBytes) (hh : (Lit.int .u8 how).wf = true) (hy : Ints .u8 w a2 n2 ys) (hc : n2 ≤ c2) (hl : n2 * 1 ≤ 140737488351232) (hT : Tab w) :
    Calls Tryz.prog 4 #[v, v', .bool own, .int .u8 how, .slice a2 n2 c2] w fun e w' => e = .returned (.bool true) ∧ Below w.heap.size w w' := by
  obtain ⟨p, ta, tn, tc, ts, own0, a, n, c, xs, rfl, ht, htn, hx, hn, _⟩ := wish_open hv hr
  obtain ⟨win, closed, s1, s2, seen, sa, sn, sc, sl, rfl, h1, h2, h3, h4, h5, h6, h7, h8⟩ := state_open hv' hr' hs
  exact quotaOf_walk p ta tn tc ts own0 a n c xs win closed s1 s2 seen sa sn sc sl own how a2 n2 c2 ys w hT ht htn hx hn h1 h2 h3 h4 h5 h6 h7 h8 (bounds_u8 hh) hy (by omega)
end Go.Proofs.YtapiehddcdnadaaGreatDoor

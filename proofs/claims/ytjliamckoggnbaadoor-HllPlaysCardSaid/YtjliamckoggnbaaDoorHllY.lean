/- The deeds out of the argument's reading, and the walk as the row wants it. -/
import Derived.Test.YtjliamckoggnbaaDoorHllX
namespace Go.Proofs.YtjliamckoggnbaaDoor
open Go.RowKit Go.ChangeShapes Go.WideShapes Go.ChangeAt
set_option linter.unusedVariables false
set_option linter.unusedSimpArgs false

theorem deeds_open {H : Type} {enc : TypeId × Value → H} {W : World} {base : Nat} {held : Bool} {a : Option Addr} {n c : Nat} {d : DataW H} {ps : List MemPlace}
    (h : DataW.Trod enc Tryd.prog W base (fun _ => true) held 47 (.slice a n c) d ps) : Deeds W a n := by
  obtain ⟨h1, h2, h3⟩ := fields_open Tryd.underlying47 Tryd.underlying51 (by kernel_rfl) (by kernel_rfl) (by decide) h
  have hm : maxLen = 9223372036854775807 := by decide
  refine ⟨by omega, fun hn => ?_⟩
  obtain ⟨b, off, ha, hlt, hi⟩ := h3 hn
  refine ⟨b, off, ha, hlt, fun i hin => ?_⟩
  obtain ⟨u0, k0, z0, c0, t0⟩ := hi i hin 0 _ rfl
  obtain ⟨u1, k1, z1, c1, t1⟩ := hi i hin 1 _ rfl
  obtain ⟨u2, k2, z2, c2, t2⟩ := hi i hin 2 _ rfl
  obtain ⟨u3, k3, z3, c3, t3⟩ := hi i hin 3 _ rfl
  obtain ⟨n0, e0, _, w0⟩ := DataW.trod_int Tryd.underlying5 t0
  obtain ⟨n1, e1, _, w1⟩ := DataW.trod_int Tryd.underlying32 t1
  obtain ⟨n3, e3, _, w3⟩ := DataW.trod_int Tryd.underlying3 t3
  obtain rfl : u0 = .int .u8 n0 := by simpa using e0
  obtain rfl : u1 = .int .u64 n1 := by simpa using e1
  obtain rfl : u3 = .int .i64 n3 := by simpa using e3
  obtain ⟨A, l, cc, xs, rfl, hx, hl⟩ : ∃ A l cc xs, u2 = .slice A l cc ∧ Ints .u64 W A l xs ∧ l ≤ 9223372036854775807 := by
    rcases open_ints Tryd.underlying36 Tryd.underlying32 (by kernel_rfl) t2 with ⟨hcs, _⟩ | ⟨x, l, cc, zs, hcs, _, hl, hmx, hz, _, hcell, hwz⟩
    · obtain rfl : u2 = .slice none 0 0 := by simpa using hcs
      exact ⟨none, 0, 0, [], rfl, Ints.nil _ _ _, by omega⟩
    · obtain rfl : u2 = .slice (some x) l cc := by simpa using hcs
      have hzl : zs.length = cc := by simpa using hz
      refine ⟨some x, l, cc, zs.take l, rfl, ⟨by rw [List.length_take]; omega, fun y hy => hwz y (List.mem_of_mem_take hy), fun hn => ?_⟩, ?_⟩
      · obtain ⟨b, off, hx, hcc⟩ := ints_at hcell (by omega)
        exact ⟨b, off, by rw [hx], cell_lt (hcc 0 (by omega)), fun i hi => by rw [take_getD _ _ _ hi]; exact hcc i (by omega)⟩
      · omega
  exact ⟨n0, n1, n3, A, l, cc, xs, by simpa using c0, by simpa [Nat.add_assoc] using c1, by simpa [Nat.add_assoc] using c2, by simpa [Nat.add_assoc] using c3, hx, hl, bounds_u8 w0, bounds_u64 w1, bounds_i64 w3⟩

theorem hllPlays_row (bits : Int) (near : Bool) (a : Option Addr) (n cap : Nat) (w : World) (h1 : (Lit.int .i64 bits).wf = true) (hD : Deeds w a n) (hT : Tab w) :
    Calls Tryd.prog 9 #[.int .i64 bits, .bool near, .slice a n cap] w fun e w' => e = .returned (.bool true) ∧ Below w.heap.size w w' :=
  plays_walk bits near a n cap w hT (bounds_i64 h1) hD
end Go.Proofs.YtjliamckoggnbaaDoor

/- What the arguments of the laws are: a wish, deeds. Plain lemmas on the readings. -/
import Derived.Test.YtapiehddcdnadaaGreatDoorQuV
import Derived.Test.YtapiehddcdnadaaGreatDoorM1
import Derived.Lib.SmallJoins
namespace Go.Proofs.YtapiehddcdnadaaGreatDoor
open Go.RowKit Go.ChangeShapes Go.WideShapes Go.ChangeAt Go.Deep
set_option linter.unusedVariables false
set_option linter.unusedSimpArgs false

section
variable {H : Type} {enc : TypeId × Value → H} {W : World} {base : Nat} {held : Bool}
theorem array13 {α : Type} {cs : Array α} (h : cs.size = 13) : ∃ a0 a1 a2 a3 a4 a5 a6 a7 a8 a9 a10 a11 a12, cs = #[a0, a1, a2, a3, a4, a5, a6, a7, a8, a9, a10, a11, a12] := by
  obtain ⟨l⟩ := cs
  match l, h with
  | [a0, a1, a2, a3, a4, a5, a6, a7, a8, a9, a10, a11, a12], _ => exact ⟨a0, a1, a2, a3, a4, a5, a6, a7, a8, a9, a10, a11, a12, rfl⟩
/-- One field of a struct, read. -/
theorem field_at {t : TypeId} {fs : Array Field} {fuel : Nat} {cs : List Value} {x : DataW H × List MemPlace} (ht : Tryz.prog.underlying t = some (.struct fs)) (h : DataW.trod enc Tryz.prog W base (fun _ => true) held fuel t cs = some x) (j : Nat) (f : Field) (hj : fs[j]? = some f) :
    ∃ n z, DataW.trod enc Tryz.prog W base (fun _ => true) held n f.type ((cs.drop f.offset).take (Tryz.prog.cellsOf f.type)) = some z := by
  obtain ⟨ys, fuel', _, _, _, hlen, hg⟩ := DataW.trod_struct ht h
  have hjs : j < fs.size := (Array.getElem?_eq_some_iff.1 hj).1
  have h1 := hg j f hj
  cases hy : ys[j]? with
  | none => rw [List.getElem?_eq_none_iff] at hy; omega
  | some z => rw [hy] at h1; exact ⟨fuel', z, h1⟩
theorem read_int {t : TypeId} {k : IntKind} {fuel : Nat} {v : Value} {x : DataW H × List MemPlace} (ht : Tryz.prog.underlying t = some (.int k)) (h : DataW.trod enc Tryz.prog W base (fun _ => true) held fuel t [v] = some x) : ∃ n, v = .int k n ∧ (Lit.int k n).wf = true := by
  obtain ⟨n, e, _, hw⟩ := DataW.trod_int ht h
  injection e with e _
  exact ⟨n, e, hw⟩
theorem read_bool {t : TypeId} {fuel : Nat} {v : Value} {x : DataW H × List MemPlace} (ht : Tryz.prog.underlying t = some .bool) (h : DataW.trod enc Tryz.prog W base (fun _ => true) held fuel t [v] = some x) : ∃ b, v = .bool b := by
  obtain ⟨n, e, _⟩ := DataW.trod_bool ht h
  injection e with e _
  exact ⟨n, e⟩
theorem read_str {t : TypeId} {fuel : Nat} {v : Value} {x : DataW H × List MemPlace} (ht : Tryz.prog.underlying t = some .string) (h : DataW.trod enc Tryz.prog W base (fun _ => true) held fuel t [v] = some x) : ∃ s : ByteArray, v = .string s ∧ s.size ≤ 9223372036854775807 := by
  obtain ⟨n, e, _, hs⟩ := DataW.trod_string ht h
  injection e with e _
  exact ⟨n, e, hs⟩
theorem read_ints {t e : TypeId} {k : IntKind} {fuel : Nat} {v : Value} {x : DataW H × List MemPlace} (hu : Tryz.prog.underlying t = some (.slice e)) (he : Tryz.prog.underlying e = some (.int k)) (hc : Tryz.prog.cellsOf e = 1) (h : DataW.trod enc Tryz.prog W base (fun _ => true) held fuel t [v] = some x) :
    ∃ a n c xs, v = .slice a n c ∧ Ints k W a n xs ∧ n ≤ 9223372036854775807 := by
  have h2 := h
  rcases DataW.trod_slice hu h with ⟨e1, _⟩ | ⟨a, len, cap, _, _, _, _, e1, _, _, hl, hm, _⟩
  · injection e1 with e1 _
    subst e1
    exact ⟨none, 0, 0, [], rfl, Ints.nil k W none, by omega⟩
  · injection e1 with e1 _
    subst e1
    obtain ⟨xs, hx, _⟩ := ints_open (d := x.1) (ps := x.2) hu he hc ⟨fuel, h2⟩
    simp only [maxLen] at hm
    exact ⟨some a, len, cap, xs, rfl, hx, by omega⟩
set_option maxRecDepth 100000 in
/-- The thirteen cells of a wish. -/
theorem wish_cells {fuel : Nat} {a0 a1 a2 a3 a4 a5 a6 a7 a8 a9 a10 a11 a12 : Value} {x : DataW H × List MemPlace} (h : DataW.trod enc Tryz.prog W base (fun _ => true) held fuel 27 [a0, a1, a2, a3, a4, a5, a6, a7, a8, a9, a10, a11, a12] = some x) :
    ∃ (p : PolN) (ta : Option Addr) (tn tc : Nat) (ts : List Int) (own : Bool) (a : Option Addr) (n c : Nat) (xs : List Int), #[a0, a1, a2, a3, a4, a5, a6, a7, a8, a9, a10, a11, a12] = #[.int .i64 p.slots, .int .i64 p.low, .int .i64 p.high, .int .i64 p.top, .int .i64 p.sketch, .int .i64 p.fine, .int .i64 p.idle, .int .i64 p.window, .int .i64 p.late, .int .i64 p.future, .slice ta tn tc, .bool own, .slice a n c] ∧
      Ints .i64 W ta tn ts ∧ tn ≤ 9223372036854775807 ∧ Ints .u16 W a n xs ∧ n ≤ 9223372036854775807 ∧ p.Fit := by
  obtain ⟨n0, z0, h0⟩ := field_at Tryz.underlying27 h 0 _ rfl
  obtain ⟨n1, z1, h1⟩ := field_at Tryz.underlying27 h 1 _ rfl
  obtain ⟨n2, z2, h2⟩ := field_at Tryz.underlying27 h 2 _ rfl
  replace h0 : DataW.trod enc Tryz.prog W base (fun _ => true) held n0 24 [a0, a1, a2, a3, a4, a5, a6, a7, a8, a9, a10] = some z0 := h0
  replace h1 : DataW.trod enc Tryz.prog W base (fun _ => true) held n1 4 [a11] = some z1 := h1
  replace h2 : DataW.trod enc Tryz.prog W base (fun _ => true) held n2 25 [a12] = some z2 := h2
  obtain ⟨own, rfl⟩ := read_bool Tryz.underlying4 h1
  obtain ⟨a, n, c, xs, rfl, hx, hn⟩ := read_ints Tryz.underlying25 Tryz.underlying76 (by kernel_rfl) h2
  have F := field_at Tryz.underlying24 h0
  obtain ⟨m0, y0, f0⟩ := F 0 _ rfl
  obtain ⟨m1, y1, f1⟩ := F 1 _ rfl
  obtain ⟨m2, y2, f2⟩ := F 2 _ rfl
  obtain ⟨m3, y3, f3⟩ := F 3 _ rfl
  obtain ⟨m4, y4, f4⟩ := F 4 _ rfl
  obtain ⟨m5, y5, f5⟩ := F 5 _ rfl
  obtain ⟨m6, y6, f6⟩ := F 6 _ rfl
  obtain ⟨m7, y7, f7⟩ := F 7 _ rfl
  obtain ⟨m8, y8, f8⟩ := F 8 _ rfl
  obtain ⟨m9, y9, f9⟩ := F 9 _ rfl
  obtain ⟨m10, y10, f10⟩ := F 10 _ rfl
  replace f0 : DataW.trod enc Tryz.prog W base (fun _ => true) held m0 3 [a0] = some y0 := f0
  replace f1 : DataW.trod enc Tryz.prog W base (fun _ => true) held m1 3 [a1] = some y1 := f1
  replace f2 : DataW.trod enc Tryz.prog W base (fun _ => true) held m2 3 [a2] = some y2 := f2
  replace f3 : DataW.trod enc Tryz.prog W base (fun _ => true) held m3 3 [a3] = some y3 := f3
  replace f4 : DataW.trod enc Tryz.prog W base (fun _ => true) held m4 3 [a4] = some y4 := f4
  replace f5 : DataW.trod enc Tryz.prog W base (fun _ => true) held m5 3 [a5] = some y5 := f5
  replace f6 : DataW.trod enc Tryz.prog W base (fun _ => true) held m6 3 [a6] = some y6 := f6
  replace f7 : DataW.trod enc Tryz.prog W base (fun _ => true) held m7 2 [a7] = some y7 := f7
  replace f8 : DataW.trod enc Tryz.prog W base (fun _ => true) held m8 2 [a8] = some y8 := f8
  replace f9 : DataW.trod enc Tryz.prog W base (fun _ => true) held m9 2 [a9] = some y9 := f9
  replace f10 : DataW.trod enc Tryz.prog W base (fun _ => true) held m10 22 [a10] = some y10 := f10
  obtain ⟨p0, rfl, w0⟩ := read_int Tryz.underlying3 f0
  obtain ⟨p1, rfl, w1⟩ := read_int Tryz.underlying3 f1
  obtain ⟨p2, rfl, w2⟩ := read_int Tryz.underlying3 f2
  obtain ⟨p3, rfl, w3⟩ := read_int Tryz.underlying3 f3
  obtain ⟨p4, rfl, w4⟩ := read_int Tryz.underlying3 f4
  obtain ⟨p5, rfl, w5⟩ := read_int Tryz.underlying3 f5
  obtain ⟨p6, rfl, w6⟩ := read_int Tryz.underlying3 f6
  obtain ⟨p7, rfl, w7⟩ := read_int Tryz.underlying2 f7
  obtain ⟨p8, rfl, w8⟩ := read_int Tryz.underlying2 f8
  obtain ⟨p9, rfl, w9⟩ := read_int Tryz.underlying2 f9
  obtain ⟨ta, tn, tc, ts, rfl, ht, htn⟩ := read_ints Tryz.underlying22 Tryz.underlying2 (by kernel_rfl) f10
  refine ⟨⟨p0, p1, p2, p3, p4, p5, p6, p7, p8, p9⟩, ta, tn, tc, ts, own, a, n, c, xs, rfl, ht, htn, hx, hn, ?_⟩
  intro x hx
  simp only [PolN.list, List.mem_cons, List.not_mem_nil, or_false] at hx
  rcases hx with rfl | rfl | rfl | rfl | rfl | rfl | rfl | rfl | rfl | rfl
  · exact bounds_i64 w0
  · exact bounds_i64 w1
  · exact bounds_i64 w2
  · exact bounds_i64 w3
  · exact bounds_i64 w4
  · exact bounds_i64 w5
  · exact bounds_i64 w6
  · exact bounds_i64 w7
  · exact bounds_i64 w8
  · exact bounds_i64 w9
set_option maxRecDepth 100000 in
theorem wish_open {r : Reach} {b0 : Nat} {v : Value} {d : DataW H} {ps : List MemPlace} (hv : Value.okWide Tryz.prog W r b0 27 v) (h : DataW.Trod enc Tryz.prog W base (fun _ => true) held 27 v d ps) :
    ∃ (p : PolN) (ta : Option Addr) (tn tc : Nat) (ts : List Int) (own : Bool) (a : Option Addr) (n c : Nat) (xs : List Int), v = wishV p ta tn tc own a n c ∧ Ints .i64 W ta tn ts ∧ tn ≤ 9223372036854775807 ∧ Ints .u16 W a n xs ∧ n ≤ 9223372036854775807 ∧ p.Fit := by
  obtain ⟨cs, rfl, hsz⟩ := okWide_struct Tryz.underlying27 hv
  obtain ⟨a0, a1, a2, a3, a4, a5, a6, a7, a8, a9, a10, a11, a12, rfl⟩ := array13 (hsz.trans (by kernel_rfl))
  obtain ⟨fuel, hf⟩ := h
  obtain ⟨p, ta, tn, tc, ts, own, a, n, c, xs, e, h1, h2, h3, h4, h5⟩ := wish_cells hf
  exact ⟨p, ta, tn, tc, ts, own, a, n, c, xs, by rw [e]; rfl, h1, h2, h3, h4, h5⟩
end
/-- A deed. -/
structure DeedQ where
  kind : Int
  k : Int
  s : ByteArray
  known : Bool
  full : Bool
  by_ : Int
  p : PolN
  ta : Option Addr
  tn : Nat
  tc : Nat
  ts : List Int
  own : Bool
  a : Option Addr
  n : Nat
  c : Nat
  xs : List Int
def DeedQ.cells (d : DeedQ) : List Value := [.int .u8 d.kind, .int .u8 d.k, .string d.s, .bool d.known, .bool d.full, .int .i64 d.by_, .int .i64 d.p.slots, .int .i64 d.p.low, .int .i64 d.p.high, .int .i64 d.p.top, .int .i64 d.p.sketch, .int .i64 d.p.fine, .int .i64 d.p.idle, .int .i64 d.p.window, .int .i64 d.p.late, .int .i64 d.p.future, .slice d.ta d.tn d.tc, .bool d.own, .slice d.a d.n d.c]
structure DeedQ.Fit (W : World) (d : DeedQ) : Prop where
  kind : 0 ≤ d.kind ∧ d.kind ≤ 255
  k : 0 ≤ d.k ∧ d.k ≤ 255
  s : d.s.size ≤ 9223372036854775807
  by_ : -9223372036854775808 ≤ d.by_ ∧ d.by_ ≤ 9223372036854775807
  p : d.p.Fit
  ts : Ints .i64 W d.ta d.tn d.ts
  tn : d.tn ≤ 9223372036854775807
  xs : Ints .u16 W d.a d.n d.xs
  n : d.n ≤ 9223372036854775807
/-- n deeds lie at a. -/
structure DeedsQ (W : World) (a : Option Addr) (n : Nat) : Prop where
  le : n ≤ 9223372036854775807
  at_ : 0 < n → ∃ b off, a = some ⟨b, off, none⟩ ∧ b < W.heap.size ∧ ∀ i, i < n → ∃ d : DeedQ, d.Fit W ∧ ∀ j, j < 19 → W.cell? ⟨b, off + i * 19 + j, none⟩ = d.cells[j]?
set_option maxRecDepth 100000 in
theorem list19 {α : Type} {cs : List α} (h : cs.length = 19) : ∃ a0 a1 a2 a3 a4 a5 b0 b1 b2 b3 b4 b5 b6 b7 b8 b9 b10 b11 b12, cs = [a0, a1, a2, a3, a4, a5, b0, b1, b2, b3, b4, b5, b6, b7, b8, b9, b10, b11, b12] := by
  match cs, h with
  | [a0, a1, a2, a3, a4, a5, b0, b1, b2, b3, b4, b5, b6, b7, b8, b9, b10, b11, b12], _ => exact ⟨a0, a1, a2, a3, a4, a5, b0, b1, b2, b3, b4, b5, b6, b7, b8, b9, b10, b11, b12, rfl⟩
set_option maxRecDepth 100000 in
theorem deed_cells {H : Type} {enc : TypeId × Value → H} {W : World} {base : Nat} {held : Bool} {fuel : Nat} {cs : List Value} {x : DataW H × List MemPlace} (hl : cs.length = 19) (h : DataW.trod enc Tryz.prog W base (fun _ => true) held fuel 41 cs = some x) : ∃ d : DeedQ, d.Fit W ∧ cs = d.cells := by
  obtain ⟨a0, a1, a2, a3, a4, a5, b0, b1, b2, b3, b4, b5, b6, b7, b8, b9, b10, b11, b12, rfl⟩ := list19 hl
  have F := field_at Tryz.underlying41 h
  obtain ⟨m0, y0, f0⟩ := F 0 _ rfl
  obtain ⟨m1, y1, f1⟩ := F 1 _ rfl
  obtain ⟨m2, y2, f2⟩ := F 2 _ rfl
  obtain ⟨m3, y3, f3⟩ := F 3 _ rfl
  obtain ⟨m4, y4, f4⟩ := F 4 _ rfl
  obtain ⟨m5, y5, f5⟩ := F 5 _ rfl
  obtain ⟨m6, y6, f6⟩ := F 6 _ rfl
  replace f0 : DataW.trod enc Tryz.prog W base (fun _ => true) held m0 5 [a0] = some y0 := f0
  replace f1 : DataW.trod enc Tryz.prog W base (fun _ => true) held m1 5 [a1] = some y1 := f1
  replace f2 : DataW.trod enc Tryz.prog W base (fun _ => true) held m2 9 [a2] = some y2 := f2
  replace f3 : DataW.trod enc Tryz.prog W base (fun _ => true) held m3 4 [a3] = some y3 := f3
  replace f4 : DataW.trod enc Tryz.prog W base (fun _ => true) held m4 4 [a4] = some y4 := f4
  replace f5 : DataW.trod enc Tryz.prog W base (fun _ => true) held m5 2 [a5] = some y5 := f5
  replace f6 : DataW.trod enc Tryz.prog W base (fun _ => true) held m6 27 [b0, b1, b2, b3, b4, b5, b6, b7, b8, b9, b10, b11, b12] = some y6 := f6
  obtain ⟨k0, rfl, w0⟩ := read_int Tryz.underlying5 f0
  obtain ⟨k1, rfl, w1⟩ := read_int Tryz.underlying5 f1
  obtain ⟨s2, rfl, w2⟩ := read_str Tryz.underlying9 f2
  obtain ⟨k3, rfl⟩ := read_bool Tryz.underlying4 f3
  obtain ⟨k4, rfl⟩ := read_bool Tryz.underlying4 f4
  obtain ⟨k5, rfl, w5⟩ := read_int Tryz.underlying2 f5
  obtain ⟨p, ta, tn, tc, ts, own, a, n, c, xs, e, h1, h2, h3, h4, h5⟩ := wish_cells f6
  have e2 : [b0, b1, b2, b3, b4, b5, b6, b7, b8, b9, b10, b11, b12] = [.int .i64 p.slots, .int .i64 p.low, .int .i64 p.high, .int .i64 p.top, .int .i64 p.sketch, .int .i64 p.fine, .int .i64 p.idle, .int .i64 p.window, .int .i64 p.late, .int .i64 p.future, .slice ta tn tc, .bool own, .slice a n c] := congrArg Array.toList e
  refine ⟨⟨k0, k1, s2, k3, k4, k5, p, ta, tn, tc, ts, own, a, n, c, xs⟩, ⟨bounds_u8 w0, bounds_u8 w1, w2, bounds_i64 w5, h5, h1, h2, h3, h4⟩, ?_⟩
  rw [e2]
  rfl
set_option maxRecDepth 100000 in
theorem deedsQ_open {H : Type} {enc : TypeId × Value → H} {W : World} {base : Nat} {held : Bool} {a0 : Option Addr} {n c : Nat} {d : DataW H} {ps : List MemPlace}
    (h : DataW.Trod enc Tryz.prog W base (fun _ => true) held 28 (.slice a0 n c) d ps) : DeedsQ W a0 n := by
  obtain ⟨fuel, hf⟩ := h
  have hml : maxLen = 9223372036854775807 := by decide
  rcases open_slice Tryz.underlying28 hf with ⟨hcs, _⟩ | ⟨a, len, cap, m, k, D, Pl, hcs, _, hl, hm, hmm, _, hi⟩
  · simp [Value.cells] at hcs
    obtain ⟨rfl, rfl, rfl⟩ := hcs
    exact ⟨by omega, fun h => absurd h (by omega)⟩
  · simp [Value.cells] at hcs
    obtain ⟨rfl, rfl, rfl⟩ := hcs
    refine ⟨by omega, fun hn => ?_⟩
    have hC : Tryz.prog.cellsOf 41 = 19 := by kernel_rfl
    have hel : ∀ i, i < n → ∃ d : DeedQ, d.Fit W ∧ ∀ j, j < 19 → W.cell? (a.add (i * 19 + j)) = d.cells[j]? := by
      intro i hin
      obtain ⟨cs, hc, ht⟩ := hi i (by rw [hmm]; split <;> omega)
      rw [hC] at hc
      obtain ⟨_, hlen, hat⟩ := World.cells?_some hc
      obtain ⟨d, hd, rfl⟩ := deed_cells hlen ht
      refine ⟨d, hd, fun j hj => ?_⟩
      have h2 := hat j hj
      rw [add_add] at h2
      exact h2
    obtain ⟨b, off, spot⟩ := a
    obtain ⟨d0, _, h0⟩ := hel 0 hn
    have hu0 := h0 0 (by omega)
    have hspot : spot = none := by simpa [Addr.add] using World.cell?_spot hu0
    subst hspot
    refine ⟨b, off, rfl, ?_, fun i hin => ?_⟩
    · have := cell_lt hu0
      simpa [Addr.add] using this
    · obtain ⟨d, hd, h1⟩ := hel i hin
      refine ⟨d, hd, fun j hj => ?_⟩
      have h2 := h1 j hj
      rw [Go.WideShapes.add_plain] at h2
      rw [Nat.add_assoc]
      exact h2
theorem DeedQ.Fit.step {w w' : World} {d : DeedQ} (h : d.Fit w) (hb : Below w.heap.size w w') : d.Fit w' := ⟨h.kind, h.k, h.s, h.by_, h.p, h.ts.step hb, h.tn, h.xs.step hb, h.n⟩
end Go.Proofs.YtapiehddcdnadaaGreatDoor

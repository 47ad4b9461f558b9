/- Lists of strings; the chapter's examples. -/
import Derived.Test.YtoaohohnaifjdaaDoorLexE
namespace Go.Proofs.YtoaohohnaifjdaaDoor
open Go.RowKit
set_option linter.unusedVariables false
set_option linter.unusedSimpArgs false

/-- The slice at A of n strings. -/
structure StrRow (w : World) (A : Option Addr) (n : Nat) (ls : List (List UInt8)) : Prop where
  len : ls.length = n
  at_ : 0 < n → ∃ b off, A = some ⟨b, off, none⟩ ∧ b < w.heap.size ∧ ∀ i, i < n → w.cell? ⟨b, off + i, none⟩ = some (.string ⟨(ls.getD i []).toArray⟩)
theorem StrRow.step {w w' : World} {A : Option Addr} {n : Nat} {ls : List (List UInt8)} (h : StrRow w A n ls) (hb : Below w.heap.size w w') : StrRow w' A n ls := ⟨h.len, fun hn => by
  obtain ⟨b, off, rfl, hr, hc⟩ := h.at_ hn
  exact ⟨b, off, rfl, Nat.lt_of_lt_of_le hr hb.size, fun i hi => (hb.cell (p := ⟨b, off + i, none⟩) hr).trans (hc i hi)⟩⟩
theorem strRow_of {w : World} {base : Nat} {A : Option Addr} {n c : Nat} {ls : List (List UInt8)} (h : w.ownsRow base 9 1 (.slice A n c) n (strs ls)) : StrRow w A n ls ∧ n ≤ c := by
  have hl := h.1
  rw [strs_len] at hl
  rcases h.2 with ⟨e1, e2⟩ | ⟨g, cap, cur, e1, hb, hg, hnc, hcm, hcs, ht⟩
  · injection e1 with _ h0 h1
    exact ⟨⟨by omega, fun hn => by omega⟩, by omega⟩
  · injection e1 with h0 h1 h2
    subst h0 h2
    refine ⟨⟨by omega, fun hn => ⟨g, 0, rfl, ?_, fun i hi => ?_⟩⟩, hnc⟩
    · rcases Nat.lt_or_ge g w.heap.size with h3 | h3
      · exact h3
      · rw [Array.getElem?_eq_none h3] at hg; cases hg
    · have hc := h.cells (g := g) rfl i (.string ⟨(ls.getD i []).toArray⟩) (by
        unfold strs
        rw [List.getElem?_map, List.getD_eq_getElem?_getD, List.getElem?_eq_getElem (by omega)]
        rfl)
      rw [addr_add] at hc
      exact hc

set_option maxHeartbeats 1000000 in
theorem same_call (A1 A2 : Option Addr) (n c1 c2 : Nat) (ls : List (List UInt8)) (w : World) (R1 : StrRow w A1 n ls) (R2 : StrRow w A2 n ls) (hn : n ≤ 9223372036854775806) (h1 : n ≤ c1) (h2 : n ≤ c2) :
    Calls Tryd.prog 13 #[.slice A1 n c1, .slice A2 n c2] w fun e w' => e = .returned (.bool true) ∧ Below w.heap.size w w' := by
  go_enter Tryd.func13, Tryd.ntmps13
  go_wp2_with fail
  go_loopw [5] (fun i wr => ∃ k : Nat, k ≤ n ∧ i = .int .i64 k ∧ Below w.heap.size w wr) (fun i _ => n - (intOf i).toNat)
  case atStart => exact ⟨0, Nat.zero_le _, rfl, Below.refl _ _⟩
  case round =>
    obtain ⟨k, hk, rfl, hB⟩ := hrel
    by_cases hlt : k < n
    · obtain ⟨b, off, rfl, hb, hc⟩ := R1.at_ (by omega)
      obtain ⟨b', off', rfl, hb', hc'⟩ := R2.at_ (by omega)
      have x0 := (hB.cell (p := ⟨b, off + k, none⟩) hb).trans (hc k hlt)
      have x1 := (hB.cell (p := ⟨b', off' + k, none⟩) hb').trans (hc' k hlt)
      generalize (⟨(ls.getD k []).toArray⟩ : ByteArray) = y at *
      have g1 : (k : Int) < n := by omega
      clear hc hc'
      go_upto_region 6 with fail
      go_quiet (fail)
      have hB2 := bdrewN hB nq
      go_wp2_with fail
      exact ⟨⟨k + 1, by omega, by go_num, hB2⟩, by simp [intOf]; omega⟩
    · have g1 : ¬ (k : Int) < n := by omega
      go_wp2_with fail
      go_ret
      exact ⟨rfl, hB⟩

theorem ex_cut : cutL [97, 92, 61, 98, 61, 99] [61] = ⟨[97, 61, 98], [99], 61, 0⟩ ∧ cutL [97, 92, 120] [] = bad ∧ cutL [] [92] = ⟨[], [], 0, 1⟩ := ⟨rfl, rfl, rfl⟩
theorem ex_lines : linesL [35, 120, 10, 10, 97, 13, 10, 98] = [[97], [98]] := by decide
theorem ex_plain : plainL [97, 32, 98] = true ∧ plainL [127] = false ∧ escape [97, 32, 98] = [97, 92, 32, 98] := by decide
set_option maxRecDepth 100000 in
set_option maxHeartbeats 1000000 in
theorem examples_any (w : World) : Calls Tryd.prog 9 #[] w fun e w' => e = .returned (.bool true) ∧ Below w.heap.size w w' := by
  have C1 : Hid (∀ w, Calls Tryd.prog 11 #[.string ⟨#[97, 92, 61, 98, 61, 99]⟩, .string ⟨#[61]⟩] w fun e w' => e = .returned (.tuple #[.string ⟨#[97, 61, 98]⟩, .string ⟨#[99]⟩, .int .u8 61, .int .i64 0]) ∧ Below w.heap.size w w') := Lib.hid (fun w => by
    refine (cut_call ⟨#[97, 92, 61, 98, 61, 99]⟩ ⟨#[61]⟩ w (by decide)).mono ?_
    rintro e w' ⟨rfl, h⟩
    exact ⟨congrArg (fun r => Ending.returned (cutV r)) ex_cut.1, h⟩)
  have C2 : Hid (∀ w, Calls Tryd.prog 11 #[.string ⟨#[97, 92, 120]⟩, .string ⟨#[]⟩] w fun e w' => e = .returned (.tuple #[.string ⟨#[]⟩, .string ⟨#[]⟩, .int .u8 0, .int .i64 2]) ∧ Below w.heap.size w w') := Lib.hid (fun w => by
    refine (cut_call ⟨#[97, 92, 120]⟩ ⟨#[]⟩ w (by decide)).mono ?_
    rintro e w' ⟨rfl, h⟩
    exact ⟨congrArg (fun r => Ending.returned (cutV r)) ex_cut.2.1, h⟩)
  have C3 : Hid (∀ w, Calls Tryd.prog 11 #[.string ⟨#[]⟩, .string ⟨#[92]⟩] w fun e w' => e = .returned (.tuple #[.string ⟨#[]⟩, .string ⟨#[]⟩, .int .u8 0, .int .i64 1]) ∧ Below w.heap.size w w') := Lib.hid (fun w => by
    refine (cut_call ⟨#[]⟩ ⟨#[92]⟩ w (by decide)).mono ?_
    rintro e w' ⟨rfl, h⟩
    exact ⟨congrArg (fun r => Ending.returned (cutV r)) ex_cut.2.2, h⟩)
  have C4 : Hid (∀ w, Calls Tryd.prog 14 #[.string ⟨#[35, 120, 10, 10, 97, 13, 10, 98]⟩] w fun e w' => ∃ b off c, e = .returned (.slice (some ⟨b, off, none⟩) 2 c) ∧ 2 ≤ c ∧ b < w'.heap.size ∧ w'.cell? ⟨b, off, none⟩ = some (.string ⟨#[97]⟩) ∧ w'.cell? ⟨b, off + 1, none⟩ = some (.string ⟨#[98]⟩) ∧ Below w.heap.size w w') := Lib.hid (fun w => by
    refine (lines_call ⟨#[35, 120, 10, 10, 97, 13, 10, 98]⟩ w (by decide)).mono ?_
    rintro e w' ⟨A, n, c, rfl, h, hB⟩
    have e1 : linesL (⟨#[35, 120, 10, 10, 97, 13, 10, 98]⟩ : ByteArray).data.toList = [[97], [98]] := ex_lines
    rw [e1] at h
    obtain ⟨R, hc⟩ := strRow_of h
    have hn : 2 = n := R.len
    subst hn
    obtain ⟨b, off, rfl, hb, hcell⟩ := R.at_ (by omega)
    exact ⟨b, off, c, rfl, hc, hb, hcell 0 (by omega), hcell 1 (by omega), hB⟩)
  have C5 : Hid (∀ w, Calls Tryd.prog 16 #[.string ⟨#[97, 32, 98]⟩] w fun e w' => e = .returned (.string ⟨#[97, 92, 32, 98]⟩) ∧ Below w.heap.size w w') := Lib.hid (fun w => by
    refine (escape_call ⟨#[97, 32, 98]⟩ w (by decide)).mono ?_
    rintro e w' ⟨rfl, h⟩
    exact ⟨congrArg (fun r : List UInt8 => Ending.returned (.string ⟨r.toArray⟩)) ex_plain.2.2, h⟩)
  have C6 : Hid (∀ w, Calls Tryd.prog 18 #[.string ⟨#[97, 32, 98]⟩] w fun e w' => e = .returned (.bool true) ∧ w = w') := Lib.hid (fun w => by
    refine (plain_call ⟨#[97, 32, 98]⟩ w (by decide)).mono ?_
    rintro e w' ⟨rfl, h⟩
    exact ⟨congrArg (fun r => Ending.returned (.bool r)) ex_plain.1, h⟩)
  have C7 : Hid (∀ w, Calls Tryd.prog 18 #[.string ⟨#[127]⟩] w fun e w' => e = .returned (.bool false) ∧ w = w') := Lib.hid (fun w => by
    refine (plain_call ⟨#[127]⟩ w (by decide)).mono ?_
    rintro e w' ⟨rfl, h⟩
    exact ⟨congrArg (fun r => Ending.returned (.bool r)) ex_plain.2.1, h⟩)
  go_enter Tryd.func9, Tryd.ntmps9
  go_wp2_with fail
  refine (C1.out _).mono ?_
  rintro e w1 ⟨rfl, b1⟩
  go_wp2_with fail
  refine (C2.out _).mono ?_
  rintro e w2 ⟨rfl, b2⟩
  go_wp2_with fail
  refine (C3.out _).mono ?_
  rintro e w3 ⟨rfl, b3⟩
  go_wp2_with fail
  refine (C4.out _).mono ?_
  rintro e w4 ⟨b, off, c, rfl, h2, hb, x0, x1, b4⟩
  have b14 := bstep b4 (bstep b3 (bstep b2 b1))
  clear C1 C2 C3 C4 b1 b2 b3 b4
  have hb4 : b < w4.heap.size := hb
  go_wp2_with fail
  refine (C5.out _).mono ?_
  rintro e w5 ⟨rfl, b5⟩
  have y0 := (b5.cell (p := ⟨b, off, none⟩) hb).trans x0
  have y1 := (b5.cell (p := ⟨b, off + 1, none⟩) hb).trans x1
  have hb5 : b < w5.heap.size := Nat.lt_of_lt_of_le hb b5.size
  have b15 := bstep b5 b14
  clear x0 x1 b14 b5 hb hb4
  go_wp2_with (first
    | (go_at_call 18; ((with_reducible refine (C6.out _).mono ?_); rintro e w' ⟨rfl, rfl⟩))
    | (go_at_call 18; ((with_reducible refine (C7.out _).mono ?_); rintro e w' ⟨rfl, rfl⟩)))
  go_ret
  exact ⟨rfl, b15⟩
end Go.Proofs.YtoaohohnaifjdaaDoor

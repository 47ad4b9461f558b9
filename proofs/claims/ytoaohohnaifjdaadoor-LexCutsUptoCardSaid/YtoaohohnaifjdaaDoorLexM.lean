/- LexCuts. -/
import Derived.Test.YtoaohohnaifjdaaDoorLexT
import Derived.Test.YtoaohohnaifjdaaDoorLexQ
import Derived.Test.YtoaohohnaifjdaaDoorLexO
import Derived.Test.YtoaohohnaifjdaaDoorLexU
namespace Go.Proofs.YtoaohohnaifjdaaDoor
open Go.RowKit
set_option linter.unusedVariables false
set_option linter.unusedSimpArgs false

theorem Ints.take {k : IntKind} {w : World} {a : Option Addr} {n : Nat} {xs : List Int} (h : Ints k w a n xs) (j : Nat) (hj : j ≤ n) : Ints k w a j (xs.take j) :=
  ⟨by rw [List.length_take, h.len]; omega, fun x hx => h.wf x (List.mem_of_mem_take hx), fun h0 => by
    obtain ⟨b, off, rfl, hb, hc⟩ := h.at_ (by omega)
    refine ⟨b, off, rfl, hb, fun i hi => ?_⟩
    rw [hc i (by omega), List.getD_eq_getElem?_getD, List.getD_eq_getElem?_getD, List.getElem?_take, if_pos hi]⟩
/-- What is asked of the texts S and T, in the world in which it is asked. -/
structure Asked (S T : ByteArray) : Prop where
  cut : ∃ wd rs : ByteArray, ∃ st er : Nat, (∀ W, Calls Tryd.prog 11 #[.string S, .string T] W fun e w' => e = .returned (.tuple #[.string wd, .string rs, .int .u8 (st : Int), .int .i64 (er : Int)]) ∧ Below W.heap.size W w') ∧ (∀ W, Calls Tryd.prog 12 #[.string S, .string T] W fun e w' => e = .returned (.tuple #[.string wd, .string rs, .int .u8 (st : Int), .int .i64 (er : Int)]) ∧ Below W.heap.size W w')
  esc : ∃ z : ByteArray, (∀ W, Calls Tryd.prog 16 #[.string S] W fun e w' => e = .returned (.string z) ∧ Below W.heap.size W w') ∧ (∀ W, Calls Tryd.prog 17 #[.string S] W fun e w' => e = .returned (.string z) ∧ Below W.heap.size W w')
  pl : ∃ p : Bool, (∀ W, Calls Tryd.prog 18 #[.string S] W fun e w' => e = .returned (.bool p) ∧ W = w') ∧ (∀ W, Calls Tryd.prog 19 #[.string S] W fun e w' => e = .returned (.bool p) ∧ W = w')
  lines : ∃ ls : List (List UInt8), ls.length ≤ 9223372036854775806 ∧ (∀ W, Calls Tryd.prog 14 #[.string S] W fun e w' => ∃ A c, e = .returned (.slice A ls.length c) ∧ StrRow w' A ls.length ls ∧ ls.length ≤ c ∧ Below W.heap.size W w') ∧ (∀ W, Calls Tryd.prog 15 #[.string S] W fun e w' => ∃ A c, e = .returned (.slice A ls.length c) ∧ StrRow w' A ls.length ls ∧ ls.length ≤ c ∧ Below W.heap.size W w')
theorem pieces_len (l : List UInt8) : (pieces l).length ≤ l.length + 1 := by
  induction l with
  | nil => simp [pieces]
  | cons b t ih =>
    rw [pieces]
    split
    · simpa using ih
    · cases h : pieces t with
      | nil => simp
      | cons p ps => rw [h] at ih; simp at ih ⊢; omega
theorem lines_len (l : List UInt8) : (linesL l).length ≤ l.length + 1 := by
  unfold linesL linesOf
  have h1 := List.length_filter_le keepL ((pieces l).map trimCR)
  rw [List.length_map] at h1
  have := pieces_len l
  omega
theorem asked (S T : ByteArray) (hS : S.size ≤ 1048576) (hT : T.size ≤ 1048576) : Asked S T where
  cut := by
    refine ⟨⟨(cutL S.data.toList T.data.toList).word.toArray⟩, ⟨(cutL S.data.toList T.data.toList).rest.toArray⟩, (cutL S.data.toList T.data.toList).stop.toNat, (cutL S.data.toList T.data.toList).err, fun W => ?_, fun W => ?_⟩
    · exact cut_call S T W (by omega)
    · exact refCut_call S T W hS hT
  esc := ⟨_, fun W => by
    refine (escape_call S W (by omega)).mono ?_
    rintro e w' ⟨rfl, h⟩
    exact ⟨rfl, h⟩, fun W => refEscape_call S W hS⟩
  pl := ⟨_, fun W => plain_call S W (by omega), fun W => refPlain_call S W (by omega)⟩
  lines := by
    have hl : S.data.toList.length = S.size := by simp
    have h1 := lines_len S.data.toList
    refine ⟨linesL S.data.toList, by omega, fun W => ?_, fun W => ?_⟩
    · refine (lines_call S W (by omega)).mono ?_
      rintro e w' ⟨A, n, c, rfl, h, hB⟩
      obtain ⟨R, hc⟩ := strRow_of h
      have hn := R.len
      subst hn
      exact ⟨A, c, rfl, R, hc, hB⟩
    · refine (refLines_call S W hS).mono ?_
      rintro e w' ⟨A, n, c, rfl, h, hB⟩
      obtain ⟨R, hc⟩ := strRow_of h
      have hn := R.len
      subst hn
      exact ⟨A, c, rfl, R, hc, hB⟩

set_option maxRecDepth 100000 in
set_option maxHeartbeats 4000000 in
theorem lexCuts_row (s t : ByteArray) (a : Option Addr) (n c : Nat) (xs : List Int) (a2 : Option Addr) (n2 c2 : Nat) (ys : List Int) (b : Bool) (w : World) (hs : s.size ≤ 1048576) (ht : t.size ≤ 1048576)
    (hx : Ints .u8 w a n xs) (hc : n ≤ c) (hl : n * 1 ≤ 140737488351232) (hy : Ints .u8 w a2 n2 ys) (hc2 : n2 ≤ c2) (hl2 : n2 * 1 ≤ 140737488351232) :
    Calls Tryd.prog 3 #[.string s, .string t, .slice a n c, .slice a2 n2 c2, .bool b] w fun e w' => e = .returned (.bool true) ∧ Below w.heap.size w w' := by
  cases b
  · obtain ⟨⟨wd, rs, st, er, hC1, hC2⟩, ⟨z, hE1, hE2⟩, ⟨p, hP1, hP2⟩, ⟨ls, hln, hL1, hL2⟩⟩ := asked s t hs ht
    have HC1 := Lib.hid hC1
    have HC2 := Lib.hid hC2
    have HE1 := Lib.hid hE1
    have HE2 := Lib.hid hE2
    have HP1 := Lib.hid hP1
    have HP2 := Lib.hid hP2
    have HL1 := Lib.hid hL1
    have HL2 := Lib.hid hL2
    clear hC1 hC2 hE1 hE2 hP1 hP2 hL1 hL2
    go_enter Tryd.func3, Tryd.ntmps3
    go_wp2_with fail
    refine (examples_any w).mono ?_
    rintro e w1 ⟨rfl, b1⟩
    go_wp2_with fail
    refine (HC1.out _).mono ?_
    rintro e w2 ⟨rfl, b2⟩
    go_wp2_with fail
    refine (HC2.out _).mono ?_
    rintro e w3 ⟨rfl, b3⟩
    have b13 := bstep b3 (bstep b2 b1)
    go_wp2_with fail
    refine (HL1.out _).mono ?_
    rintro e w4 ⟨A4, c4, rfl, R4, h4, b4⟩
    go_wp2_with fail
    refine (HL2.out _).mono ?_
    rintro e w5 ⟨A5, c5, rfl, R5, h5, b5⟩
    have HS := Lib.hid (same_call A4 A5 ls.length c4 c5 ls w5 (R4.step b5) R5 hln h4 h5)
    have b15 := bstep b5 (bstep b4 b13)
    clear b1 b2 b3 b4 b5 b13 R4 R5
    generalize ls.length = q at *
    go_wp2_with fail
    refine HS.out.mono ?_
    rintro e w6 ⟨rfl, b6⟩
    have b16 := bstep b6 b15
    clear b6 b15 HS
    go_wp2_with (first
      | (go_at_call 16; ((with_reducible refine (HE1.out _).mono ?_); rintro e w7 ⟨rfl, b7⟩; have b17 := bstep b7 b16))
      | (go_at_call 17; ((with_reducible refine (HE2.out _).mono ?_); rintro e w8 ⟨rfl, b8⟩; have b18 := bstep b8 b17))
      | (go_at_call 18; ((with_reducible refine (HP1.out _).mono ?_); rintro e w' ⟨rfl, rfl⟩))
      | (go_at_call 19; ((with_reducible refine (HP2.out _).mono ?_); rintro e w' ⟨rfl, rfl⟩)))
    go_ret
    exact ⟨ret_bool (by simp), b18⟩
  · go_enter Tryd.func3, Tryd.ntmps3
    go_wp2_with fail
    refine (examples_any w).mono ?_
    rintro e w01 ⟨rfl, b01⟩
    go_wp2_with fail
    refine (near_call a n c xs _ (hx.step b01) (by omega)).mono ?_
    rintro e w02 ⟨S, rfl, hs1, b02⟩
    have b03 := bstep b02 b01
    have hw := hy.step b03
    obtain ⟨q, hq, hqn⟩ : ∃ q : Nat, min (n2 : Int) 3 = (q : Int) ∧ q ≤ n2 := ⟨min n2 3, by omega, by omega⟩
    have hI := hw.take q hqn
    have hqc : (q : Int) ≤ c2 := by omega
    clear b01 b02 hx hy hw
    go_wp2_with fail
    refine (near_call a2 q c2 _ _ hI (by omega)).mono ?_
    rintro e w1 ⟨T, rfl, ht1, b04⟩
    have b1 := bstep b04 b03
    clear b03 b04 hI hq hqn hqc hs ht
    obtain ⟨⟨wd, rs, st, er, hC1, hC2⟩, ⟨z, hE1, hE2⟩, ⟨p, hP1, hP2⟩, ⟨ls, hln, hL1, hL2⟩⟩ := asked S T (by omega) (by omega)
    have HC1 := Lib.hid hC1
    have HC2 := Lib.hid hC2
    have HE1 := Lib.hid hE1
    have HE2 := Lib.hid hE2
    have HP1 := Lib.hid hP1
    have HP2 := Lib.hid hP2
    have HL1 := Lib.hid hL1
    have HL2 := Lib.hid hL2
    clear hC1 hC2 hE1 hE2 hP1 hP2 hL1 hL2
    go_wp2_with fail
    refine (HC1.out _).mono ?_
    rintro e w2 ⟨rfl, b2⟩
    go_wp2_with fail
    refine (HC2.out _).mono ?_
    rintro e w3 ⟨rfl, b3⟩
    have b13 := bstep b3 (bstep b2 b1)
    go_wp2_with fail
    refine (HL1.out _).mono ?_
    rintro e w4 ⟨A4, c4, rfl, R4, h4, b4⟩
    go_wp2_with fail
    refine (HL2.out _).mono ?_
    rintro e w5 ⟨A5, c5, rfl, R5, h5, b5⟩
    have HS := Lib.hid (same_call A4 A5 ls.length c4 c5 ls w5 (R4.step b5) R5 hln h4 h5)
    have b15 := bstep b5 (bstep b4 b13)
    clear b1 b2 b3 b4 b5 b13 R4 R5
    generalize ls.length = q at *
    go_wp2_with fail
    refine HS.out.mono ?_
    rintro e w6 ⟨rfl, b6⟩
    have b16 := bstep b6 b15
    clear b6 b15 HS
    go_wp2_with (first
      | (go_at_call 16; ((with_reducible refine (HE1.out _).mono ?_); rintro e w7 ⟨rfl, b7⟩; have b17 := bstep b7 b16))
      | (go_at_call 17; ((with_reducible refine (HE2.out _).mono ?_); rintro e w8 ⟨rfl, b8⟩; have b18 := bstep b8 b17))
      | (go_at_call 18; ((with_reducible refine (HP1.out _).mono ?_); rintro e w' ⟨rfl, rfl⟩))
      | (go_at_call 19; ((with_reducible refine (HP2.out _).mono ?_); rintro e w' ⟨rfl, rfl⟩)))
    go_ret
    exact ⟨ret_bool (by simp), b18⟩
end Go.Proofs.YtoaohohnaifjdaaDoor

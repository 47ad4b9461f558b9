/- Escape. -/
import Derived.Test.YtoaohohnaifjdaaDoorLexA
namespace Go.Proofs.YtoaohohnaifjdaaDoor
open Go.RowKit
set_option linter.unusedVariables false
set_option linter.unusedSimpArgs false

theorem in_esc (b : UInt8) : inB [44, 61, 32, 92] b = esc b := by
  simp only [inB, esc, List.contains_cons, List.contains_nil, Bool.or_false, Bool.or_assoc]
theorem cells_app (a b : List UInt8) : Lib.byteCells (a ++ b) = Lib.byteCells a ++ Lib.byteCells b := by simp [Lib.byteCells]
theorem cells_len (a : List UInt8) : (Lib.byteCells a).length = a.length := by simp [Lib.byteCells]
theorem cells_one (b : UInt8) : Lib.byteCells [b] = [.int .u8 (b.toNat : Int)] := rfl
/-- The builder at B holds the bytes l. -/
structure Bld (B : Nat) (l : List UInt8) (w : World) : Prop where
  is : Lib.IsBuilder 43 5 B B (Lib.byteCells l) w
  ge : B ≤ w.heap.size
theorem Bld.new (w : World) : Bld w.heap.size [] (w.alloc (.cells #[.pointer none, .slice none 0 0] 43)) := ⟨Lib.fresh_isBuilder _ _ w, by simp⟩
theorem Bld.write {B : Nat} {l : List UInt8} {w : World} (h : Bld B l w) (b : UInt8) (hl : l.length + 1 ≤ 140737488355328) :
    Calls Tryd.prog 24 #[.pointer (some ⟨B, 0, none⟩), .int .u8 (b.toNat : Int)] w fun e w' => e = .returned .nilIface ∧ Bld B (l ++ [b]) w' ∧ Below B w w' := by
  refine (Tryd.Builder_WriteByte B B (Lib.byteCells l) (b.toNat : Int) w h.is (by rw [cells_len]; exact hl) h.ge).mono ?_
  rintro e w' ⟨rfl, h1, h2⟩
  exact ⟨rfl, ⟨by rw [cells_app, cells_one]; exact .inr h1, Nat.le_trans h.ge h2.size⟩, h2⟩
theorem Bld.str {B : Nat} {l : List UInt8} {w : World} (h : Bld B l w) :
    Calls Tryd.prog 23 #[.pointer (some ⟨B, 0, none⟩)] w fun e w' => e = .returned (.string ⟨l.toArray⟩) ∧ Below B w w' := Tryd.Builder_String_any B B l w h.is h.ge

theorem take_snocB (s : ByteArray) (k : Nat) (h : k < s.size) : s.data.toList.take (k + 1) = s.data.toList.take k ++ [s[k]] := by
  rw [List.take_succ_eq_append_getElem (by simpa using h)]
  rw [str_get s k h]
theorem escape_snoc (l : List UInt8) (b : UInt8) : escape (l ++ [b]) = (if esc b then escape l ++ [92] ++ [b] else escape l ++ [b]) := by
  rw [escape_append]
  by_cases h : esc b = true <;> simp [escape, h]
theorem escape_take_len (l : List UInt8) (k : Nat) : (escape (l.take k)).length ≤ 2 * k := by
  have := (escape_len (l.take k)).2
  rw [List.length_take] at this
  omega

set_option maxHeartbeats 1000000 in
theorem escape_call (s : ByteArray) (w : World) (hs : s.size ≤ 1099511627776) : Calls Tryd.prog 16 #[.string s] w fun e w' => e = .returned (.string ⟨(escape s.data.toList).toArray⟩) ∧ Below w.heap.size w w' := by
  have hN := Bld.new w
  have hB0 : Below w.heap.size w (w.alloc (.cells #[.pointer none, .slice none 0 0] 43)) := balloc (Below.refl _ _) _
  go_enter Tryd.func16, Tryd.ntmps16
  go_wp2_with fail
  go_loopw [7] (fun i wr => ∃ k : Nat, k ≤ s.size ∧ i = .int .i64 k ∧ Bld w.heap.size (escape (s.data.toList.take k)) wr ∧ Below w.heap.size w wr) (fun i _ => s.size - (intOf i).toNat)
  case atStart => exact ⟨0, Nat.zero_le _, rfl, hN, hB0⟩
  case round =>
    clear hN hB0
    obtain ⟨k, hk, rfl, hp, hB⟩ := hrel
    by_cases hlt : k < s.size
    · have h1 : (k : Int) < s.size := by omega
      have hts := take_snocB s k hlt
      have hes := escape_snoc (s.data.toList.take k) s[k]
      rw [← hts] at hes
      have hle := escape_take_len s.data.toList k
      have HES := Lib.hid hes
      have hH := Lib.hid (fun w => has_call ⟨#[44, 61, 32, 92]⟩ s[k] w)
      clear hts hes
      generalize escape (s.data.toList.take k) = l at *
      have e0 : inB (⟨#[44, 61, 32, 92]⟩ : ByteArray).data.toList s[k] = esc s[k] := in_esc s[k]
      have E0 := Lib.hid e0
      clear e0
      cases hc : esc s[k]
      · have hn : Hid (escape (s.data.toList.take (k + 1)) = l ++ [s[k]]) := Lib.hid (by rw [HES.out, hc]; simp)
        go_wp2_with (first
          | (go_at_call 21; refine (hH.out _).mono ?_; rw [E0.out, hc]; rintro e w' ⟨rfl, rfl⟩)
          | (go_at_call 24; refine (hp.write _ (by omega)).mono ?_; rintro e w2 ⟨rfl, hp2, b2⟩))
        go_roundw
        case rel => exact ⟨k + 1, by omega, by go_num, by rw [hn.out]; exact hp2, hB.trans b2⟩
        case measure => simp [intOf]; omega
      · have hn : Hid (escape (s.data.toList.take (k + 1)) = l ++ [92] ++ [s[k]]) := Lib.hid (by rw [HES.out, hc]; simp)
        go_wp2_with (first
          | (go_at_call 21; refine (hH.out _).mono ?_; rw [E0.out, hc]; rintro e w' ⟨rfl, rfl⟩)
          | (go_at_call 24; refine (hp.write 92 (by omega)).mono ?_; rintro e w2 ⟨rfl, hp2, b2⟩; clear hp; have hlen2 : (l ++ [92]).length = l.length + 1 := by simp)
          | (go_at_call 24; refine (hp2.write s[k] (by rw [hlen2]; omega)).mono ?_; rintro e w3 ⟨rfl, hp3, b3⟩))
        go_roundw
        case rel => exact ⟨k + 1, by omega, by go_num, by rw [hn.out]; exact hp3, (hB.trans b2).trans b3⟩
        case measure => simp [intOf]; omega
    · obtain rfl : k = s.size := by omega
      have htk : s.data.toList.take s.size = s.data.toList := List.take_of_length_le (by simp)
      rw [htk] at hp
      clear htk
      go_wp2_with (go_at_call 23; refine hp.str.mono ?_; rintro e w2 ⟨rfl, b2⟩)
      go_ret
      exact ⟨rfl, hB.trans b2⟩
end Go.Proofs.YtoaohohnaifjdaaDoor

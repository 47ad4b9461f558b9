/- strings.SplitSeq at one newline: what it hands back; the iterator's contract. -/
import Derived.Test.YtoaohohnaifjdaaDoorLexR
import Derived.Test.YtoaohohnaifjdaaDoorLexC
import Derived.Shelf.Abstract
import Derived.Shelf.RegionOpen
import Derived.WalkKit
import Derived.OwnWalkIn
import Derived.TacticsInMore
import Derived.LoopNIn
import Derived.LoopIn
import Derived.Maps.AppendAt
namespace Go.Proofs.YtoaohohnaifjdaaDoor
open Go.RowKit Go.Shelf
set_option linter.unusedVariables false
set_option linter.unusedSimpArgs false
attribute [local go_sem] Oper.semAt_some

/-- The iterator's three boxes. -/
def seqW (s : ByteArray) (w : World) : World := ((w.alloc (.cells #[.string s] 9)).alloc (.cells #[.string ⟨#[10]⟩] 9)).alloc (.cells #[.int .i64 0] 3)
def seqV (h : Nat) : Value := .func (.func 36) #[] #[.pointer (some ⟨h + 1, 0, none⟩), .pointer (some ⟨h, 0, none⟩), .pointer (some ⟨h + 2, 0, none⟩)]
theorem splitSeq_inner (s : ByteArray) (w : World) : Calls Tryd.prog 31 #[.string s, .string ⟨#[10]⟩, .int .i64 0] w fun e w' => e = .returned (seqV w.heap.size) ∧ w' = seqW s w := by
  go_enter Tryd.func31, Tryd.ntmps31
  go_wp2_with fail
  go_ret
  exact ⟨rfl, rfl⟩
theorem splitSeq_call (s : ByteArray) (w : World) : Calls Tryd.prog 26 #[.string s, .string ⟨#[10]⟩] w fun e w' => e = .returned (seqV w.heap.size) ∧ w' = seqW s w := by
  have HI := Lib.hid (splitSeq_inner s w)
  go_enter Tryd.func26, Tryd.ntmps26
  go_wp2_with (go_at_call 31; refine HI.out.mono ?_; rintro e w' ⟨rfl, rfl⟩)
  go_ret
  exact ⟨rfl, rfl⟩

/-- The iterator's own blocks; what a round keeps of them. -/
def ownB (b : Nat) (r : Nat) : Prop := r = b ∨ r = b + 1 ∨ r = b + 2
def KpC (b : Nat) (A B : World) : Prop := ∀ r, ownB b r → B.heap[r]? = A.heap[r]?
theorem KpC.boxed {b r : Nat} {A B : World} {t : TypeId} {v : Value} (h : KpC b A B) (hr : ownB b r) (hv : Boxed A r t v) : Boxed B r t v := (h r hr).trans hv
/-- How many bytes are left, read off the world. -/
def leftS (b : Nat) (W : World) : Nat := match W.cell? ⟨b, 0, none⟩ with
  | some (.string r) => r.size
  | _ => 0
theorem leftS_eq {b : Nat} {W : World} {r : ByteArray} (h : W.cell? ⟨b, 0, none⟩ = some (.string r)) : leftS b W = r.size := by unfold leftS; rw [h]
theorem other_box {W : World} {b c : Nat} {t : TypeId} {v u : Value} (h : Boxed W c t v) (hne : c ≠ b) : Boxed (W.setCell ⟨b, 0, none⟩ u) c t v := h.kept (grownBy_setCell' W b u) (fun e => hne (by injection e))
/-- What is handed to a round: a string that is not too long. -/
abbrev Sm := { x : ByteArray // x.size ≤ 9223372036854775807 }
def piecesB (s : ByteArray) (xs : List Sm) : Prop := xs.map (·.1.data.toList) = pieces s.data.toList

theorem index_none {l : List UInt8} (h : Lib.indexByte l 10 = -1) : (10 : UInt8) ∉ l := fun hm => by
  obtain ⟨k, hk⟩ := List.mem_iff_getElem?.1 hm
  exact Lib.indexByte_none h k hk
theorem index_some {l : List UInt8} {o : Nat} (h : Lib.indexByte l 10 = o) : o < l.length ∧ l = l.take o ++ 10 :: l.drop (o + 1) ∧ (10 : UInt8) ∉ l.take o := by
  obtain ⟨h1, h2⟩ := Lib.indexByte_some h
  obtain ⟨hlt, he⟩ := List.getElem?_eq_some_iff.1 h1
  refine ⟨hlt, ?_, fun hm => ?_⟩
  · rw [← he, ← List.drop_eq_getElem_cons hlt, List.take_append_drop]
  · obtain ⟨k, hk, hk2⟩ := List.mem_iff_getElem.1 hm
    rw [List.length_take] at hk
    rw [List.getElem_take] at hk2
    exact h2 k (by omega) (by rw [List.getElem?_eq_getElem (by omega), hk2])
theorem pieces_at {l : List UInt8} {o : Nat} (h : Lib.indexByte l 10 = o) : pieces l = l.take o :: pieces (l.drop (o + 1)) := by
  obtain ⟨h1, h2, h3⟩ := index_some h
  have := pieces_some (l.drop (o + 1)) h3
  rw [← h2] at this
  exact this
theorem head_data (r : ByteArray) (o : Nat) : (r.extract 0 o).data.toList = r.data.toList.take o := by
  rw [Lib.extract_data]; simp

set_option maxRecDepth 100000 in
set_option maxHeartbeats 2000000 in
theorem iter_seq (n b : Nat) (hn : 3 ≤ n) (s : ByteArray) (hs : s.size ≤ 9223372036854775806) (w : World) (b0 : Boxed w b 9 (.string s)) (b1 : Boxed w (b + 1) 9 (.string ⟨#[10]⟩)) (b2 : Boxed w (b + 2) 3 (.int .i64 0)) :
    SeqC Fence.wide n Tryd.prog 36 #[.pointer (some ⟨b + 1, 0, none⟩), .pointer (some ⟨b, 0, none⟩), .pointer (some ⟨b + 2, 0, none⟩)] (fun x : Sm => #[Value.string x.1]) (KpC b) (piecesB s) (s.size + 1) (ownB b) w := by
  intro l J W hW hJ hY h0
  have hn1 : 1 ≤ n := by omega
  have lt0 := b0.lt
  have lt1 := b1.lt
  have lt2 := b2.lt
  have c0 : Boxed W b 9 (.string s) := (hW.block b lt0).trans b0
  have c1 : Boxed W (b + 1) 9 (.string ⟨#[10]⟩) := (hW.block (b + 1) lt1).trans b1
  have c2 : Boxed W (b + 2) 3 (.int .i64 0) := (hW.block (b + 2) lt2).trans b2
  have d1 := c1.cell
  have HJ := Lib.hid hJ
  have HY := Lib.hid hY
  clear hJ hY
  refine callsIn_of_wp Tryd.func36 rfl trivial ?_ rfl
  simp only [Tryd.ntmps36, List.size_toArray, List.length_cons, List.length_nil, Nat.reduceAdd, Nat.reduceSub, Array.replicate_succ, Array.replicate_zero, List.push_toArray, List.append_toArray, List.nil_append, List.cons_append]
  gi_wp2
  gi_loopw [] (fun wr => ∃ (pre : List Sm) (r : ByteArray), Boxed wr b 9 (.string r) ∧ Boxed wr (b + 1) 9 (.string ⟨#[10]⟩) ∧ Boxed wr (b + 2) 3 (.int .i64 0) ∧ J pre wr ∧ Hid (pre.map (·.1.data.toList) ++ pieces r.data.toList = pieces s.data.toList) ∧ pre.length + r.size ≤ s.size) (fun wr => leftS b wr)
  case atStart => exact ⟨[], s, c0, c1, c2, h0, Lib.hid rfl, by simp⟩
  case round =>
    clear c0 c1 c2 d1 h0
    obtain ⟨pre, r, c0, c1, c2, hj, hP, hlen⟩ := hrel
    have d0 := c0.cell
    have d1 := c1.cell
    have d2 := c2.cell
    have HIX : Hid (∀ W, Calls Tryd.prog 38 #[.string r, .string ⟨#[10]⟩] W fun e w' => e = .returned (.int .i64 (Lib.indexByte r.data.toList 10)) ∧ W = w') := Lib.hid (fun W => by
      refine (Tryd.strings_Index_one r 10 W).mono ?_
      rintro e w' ⟨rfl, h⟩
      exact ⟨rfl, h.symm⟩)
    have hge := Lib.indexByte_ge r.data.toList 10
    by_cases hi : Lib.indexByte r.data.toList 10 = -1
    · have hS : Hid (piecesB s (pre ++ [⟨r, by omega⟩])) := Lib.hid (by
        unfold piecesB
        rw [← hP.out, pieces_none (index_none hi)]
        simp)
      obtain ⟨fn, tmps, assign, body, hy, hR⟩ := HY.out pre ⟨r, by omega⟩ wr hj (by omega)
      rw [hi] at HIX
      clear hi hge
      have HR := Lib.hid hR
      clear hR
      gi_wp2_with (first
        | (refine ⟨trivial, ?_⟩; gi_at_call 38; refine (callsIn_wide.2 (HIX.out _)).mono ?_; rintro e w' ⟨rfl, rfl⟩))
      refine HR.out.mono ?_
      rintro e W3 ⟨rfl, hj3, hk3⟩
      gi_wp2
      go_end0
      exact ⟨⟨_, rfl⟩, _, hS.out, hj3⟩
    · obtain ⟨o, ho⟩ : ∃ o : Nat, Lib.indexByte r.data.toList 10 = o := ⟨(Lib.indexByte r.data.toList 10).toNat, by omega⟩
      have hol : o < r.size := by have := (index_some ho).1; simpa using this
      have HPC := Lib.hid (pieces_at ho)
      obtain ⟨fr, hfr⟩ : ∃ fr : Sm, fr.1 = r.extract 0 o := ⟨⟨r.extract 0 o, by simp; omega⟩, rfl⟩
      rw [ho] at HIX
      clear hi hge ho
      obtain ⟨fn, tmps, assign, body, hy, hR⟩ := HY.out pre fr wr hj (by omega)
      (try dsimp only at hy)
      rw [hfr] at hy
      have HFR := Lib.hid hfr
      clear hfr
      have HR := Lib.hid hR
      clear hR
      have o1 : (o : Int) ≤ r.size := by omega
      have o2 : (o : Int) + 1 ≤ r.size := by omega
      gi_wp2_with (first
        | (refine ⟨trivial, ?_⟩; gi_at_call 38; refine (callsIn_wide.2 (HIX.out _)).mono ?_; rintro e w' ⟨rfl, rfl⟩))
      refine HR.out.mono ?_
      rintro e W3 ⟨rfl, hj3, hk3⟩
      have e0 := hk3.boxed (.inl rfl) c0
      have e1 := hk3.boxed (.inr (.inl rfl)) c1
      have e2 := hk3.boxed (.inr (.inr rfl)) c2
      have f0 := e0.cell
      have f1 := e1.cell
      have f2 := e2.cell
      have z0 := e0.frozen
      have l0 := e0.lt
      have hjs : Hid (J (pre ++ [fr]) (W3.setCell ⟨b, 0, none⟩ (.string (r.extract (o + 1) r.size)))) := Lib.hid (HJ.out _ _ _ (some b) hj3 (grownBy_setCell' W3 b _) (fun q hq => by cases hq; exact .inr (.inl rfl)))
      have g0 := e0.set (.string (r.extract (o + 1) r.size))
      have g1 := other_box (u := .string (r.extract (o + 1) r.size)) e1 (show b + 1 ≠ b by omega)
      have g2 := other_box (u := .string (r.extract (o + 1) r.size)) e2 (show b + 2 ≠ b by omega)
      have hPn : Hid ((pre ++ [fr]).map (·.1.data.toList) ++ pieces (r.extract (o + 1) r.size).data.toList = pieces s.data.toList) := Lib.hid (by
        rw [← hP.out, HPC.out, List.map_append, List.map_cons, List.map_nil, HFR.out, head_data, Lib.extract_to_end]
        simp)
      have hsz : (r.extract (o + 1) r.size).size = r.size - (o + 1) := by simp
      gi_wp2
      go_roundw
      case rel => exact ⟨pre ++ [fr], r.extract (o + 1) r.size, g0, g1, g2, hjs.out, hPn, by rw [hsz]; simp; omega⟩
      case measure => rw [leftS_eq g0.cell, leftS_eq d0, hsz]; omega
end Go.Proofs.YtoaohohnaifjdaaDoor

/- Cut. -/
import Derived.Test.YtoaohohnaifjdaaDoorLexB
import Derived.Deep.CutBlock
import Derived.Deep.CutRange
namespace Go.Proofs.YtoaohohnaifjdaaDoor
open Go.RowKit
set_option linter.unusedVariables false
set_option linter.unusedSimpArgs false

theorem drop_cons (s : ByteArray) (k : Nat) (h : k < s.size) : s.data.toList.drop k = s[k] :: s.data.toList.drop (k + 1) := by
  rw [List.drop_eq_getElem_cons (by simpa using h), str_get s k h]
theorem rest_eq (s : ByteArray) (k : Nat) : s.extract k s.size = ⟨(s.data.toList.drop k).toArray⟩ := by
  have h := Lib.extract_to_end s k
  apply ByteArray.ext
  apply Array.ext'
  rw [h]
theorem results_tmp4 {fn : Func} {t u v x : Tmp} (h : fn.results = #[.tmp t, .tmp u, .tmp v, .tmp x]) (tmps : Array Value) (P : Program) (w : World) :
    (results fn tmps).run P w = .ok (.tuple #[tmps.getD t undef, tmps.getD u undef, tmps.getD v undef, tmps.getD x undef]) w := by
  simp [results, h]
theorem Bld.drew {B : Nat} {l : List UInt8} {w : World} (h : Bld B l w) : Bld B l w.drew := ⟨h.is, h.ge⟩
/-- What a cut gives, as a value. -/
def cutV (r : CutR) : Value := .tuple #[.string ⟨r.word.toArray⟩, .string ⟨r.rest.toArray⟩, .int .u8 (r.stop.toNat : Int), .int .i64 (r.err : Int)]
theorem cutV_bad : Ending.returned (.tuple #[.string ⟨#[]⟩, .string ⟨#[]⟩, .int .u8 0, .int .i64 2]) = .returned (cutV bad) := rfl
theorem u8_eq (b : UInt8) (n : Nat) (hn : n < 256) : (b == n.toUInt8) = decide (b.toNat = n) := by
  rw [Bool.eq_iff_iff]
  simp only [beq_iff_eq, decide_eq_true_eq]
  constructor
  · intro h; subst h; simp; omega
  · intro h; exact UInt8.toNat_inj.1 (by simp; omega)
theorem is92 (b : UInt8) : (b == 92) = ((b.toNat : Int) == 92) := by
  have h := u8_eq b 92 (by omega)
  have e : (92 : Nat).toUInt8 = 92 := rfl
  rw [e] at h
  rw [h, Bool.eq_iff_iff]
  simp only [decide_eq_true_eq, beq_iff_eq]
  omega

set_option maxRecDepth 100000 in
set_option maxHeartbeats 2000000 in
theorem cut_call (s stops : ByteArray) (w : World) (hs : s.size ≤ 140737488355327) : Calls Tryd.prog 11 #[.string s, .string stops] w fun e w' => e = .returned (cutV (cutL s.data.toList stops.data.toList)) ∧ Below w.heap.size w w' := by
  have h92 : ∀ w, Calls Tryd.prog 21 #[.string stops, .int .u8 92] w fun e w' => e = .returned (.bool (inB stops.data.toList 92)) ∧ w = w' := fun w => has_call stops 92 w
  have H92 := Lib.hid h92
  clear h92
  cases hst : inB stops.data.toList 92
  rotate_left
  · have hL : cutL s.data.toList stops.data.toList = ⟨[], [], 0, 1⟩ := by unfold cutL; rw [if_pos hst]
    rw [hL]
    clear hL
    go_enter Tryd.func11, Tryd.ntmps11
    go_wp2_with fail
    go_step3
    go_wp2_with (go_at_call 21; refine (H92.out _).mono ?_; rw [hst]; rintro e w' ⟨rfl, rfl⟩)
    (try rw [Exit.noGoto_ret])
    (try simp only [Exit.inBlock, Exit.then])
    refine bodyPost_ret (results_tmp4 rfl _ _ _) rfl ?_
    exact ⟨rfl, Below.refl _ _⟩
  · have hL : Hid (cutL s.data.toList stops.data.toList = cutF stops.data.toList false [] s.data.toList) := Lib.hid (by unfold cutL; rw [hst]; rfl)
    have hN := Bld.new w
    have hB0 : Below w.heap.size w (w.alloc (.cells #[.pointer none, .slice none 0 0] 43)) := balloc (Below.refl _ _) _
    generalize cutL s.data.toList stops.data.toList = R at *
    go_enter Tryd.func11, Tryd.ntmps11
    go_wp2_with fail
    go_step3
    go_wp2_with (go_at_call 21; refine (H92.out _).mono ?_; rw [hst]; rintro e w' ⟨rfl, rfl⟩)
    go_step3
    go_wp2_with fail
    go_loopw [9, 16] (fun o i wr => ∃ (k : Nat) (op : Bool) (out : List UInt8), k ≤ s.size ∧ o = .bool op ∧ i = .int .i64 k ∧ out.length ≤ k ∧ Bld w.heap.size out wr ∧ Below w.heap.size w wr ∧ Hid (R = cutF stops.data.toList op out (s.data.toList.drop k))) (fun _ i _ => s.size - (intOf i).toNat)
    case atStart => exact ⟨0, false, [], Nat.zero_le _, rfl, rfl, Nat.zero_le _, hN, hB0, Lib.hid hL.out⟩
    case round =>
      clear hN hB0 hL
      obtain ⟨k, op, out, hk, rfl, rfl, hol, hp, hB, HR⟩ := hrel
      by_cases hlt : k < s.size
      · have h1 : (k : Int) < s.size := by omega
        have HR2 : Hid (R = cutF stops.data.toList op out (s[k] :: s.data.toList.drop (k + 1))) := Lib.hid (by rw [← drop_cons s k hlt]; exact HR.out)
        have HC := Lib.hid (fun w => control_call s[k] w)
        have HS := Lib.hid (fun w => has_call stops s[k] w)
        have HE : Hid (∀ w, Calls Tryd.prog 21 #[.string ⟨#[44, 61, 32, 92]⟩, .int .u8 (s[k].toNat : Int)] w fun e w' => e = .returned (.bool (esc s[k])) ∧ w = w') := Lib.hid (fun w => by
          have := has_call ⟨#[44, 61, 32, 92]⟩ s[k] w
          have e0 : inB (⟨#[44, 61, 32, 92]⟩ : ByteArray).data.toList s[k] = esc s[k] := in_esc s[k]
          rw [e0] at this
          exact this)
        clear HR
        cases hc : ctl s[k]
        rotate_left
        · have hbad : Hid (R = bad) := Lib.hid (by rw [HR2.out, cutF, hc]; rfl)
          go_wp2_with (first
            | (go_at_call 22; refine (HC.out _).mono ?_; rw [hc]; rintro e w' ⟨rfl, rfl⟩))
          (try rw [Exit.noGoto_ret])
          (try simp only [Exit.inBlock, Exit.then])
          refine bodyPost_ret (results_tmp4 rfl _ _ _) rfl ?_
          exact ⟨by rw [hbad.out]; exact cutV_bad, hB⟩
        cases op
        rotate_left
        · cases he : esc s[k]
          · have hbad : Hid (R = bad) := Lib.hid (by rw [HR2.out, cutF, hc, he]; rfl)
            go_wp2_with (first
              | (go_at_call 22; refine (HC.out _).mono ?_; rw [hc]; rintro e w' ⟨rfl, rfl⟩)
              | (go_at_call 21; ((with_reducible refine (HE.out _).mono ?_); rw [he]; rintro e w' ⟨rfl, rfl⟩)))
            (try rw [Exit.noGoto_ret])
            (try simp only [Exit.inBlock, Exit.then])
            refine bodyPost_ret (results_tmp4 rfl _ _ _) rfl ?_
            exact ⟨by rw [hbad.out]; exact cutV_bad, hB⟩
          · have hn : Hid (R = cutF stops.data.toList false (out ++ [s[k]]) (s.data.toList.drop (k + 1))) := Lib.hid (by rw [HR2.out, cutF, hc, he]; rfl)
            go_wp2_with (first
              | (go_at_call 22; refine (HC.out _).mono ?_; rw [hc]; rintro e w' ⟨rfl, rfl⟩)
              | (go_at_call 21; ((with_reducible refine (HE.out _).mono ?_); rw [he]; rintro e w' ⟨rfl, rfl⟩))
              | (go_at_call 24; refine (hp.write s[k] (by omega)).mono ?_; rintro e w2 ⟨rfl, hp2, b2⟩))
            exact ⟨⟨k + 1, false, out ++ [s[k]], by omega, rfl, by go_num, by simp; omega, hp2, hB.trans b2, hn⟩, by simp [intOf]; omega⟩
        · have e92 := is92 s[k]
          cases h9 : (s[k] == 92)
          rotate_left
          · have h9' : ((s[k].toNat : Int) == 92) = true := by rw [← e92]; exact h9
            have hn : Hid (R = cutF stops.data.toList true out (s.data.toList.drop (k + 1))) := Lib.hid (by rw [HR2.out, cutF, hc, h9]; rfl)
            clear e92 h9
            go_wp2_with (first
              | (go_at_call 22; refine (HC.out _).mono ?_; rw [hc]; rintro e w' ⟨rfl, rfl⟩))
            exact ⟨⟨k + 1, true, out, by omega, rfl, by go_num, by omega, hp, hB, hn⟩, by simp [intOf]; omega⟩
          · have h9' : ((s[k].toNat : Int) == 92) = false := by rw [← e92]; exact h9
            cases hi : inB stops.data.toList s[k]
            · have hn : Hid (R = cutF stops.data.toList false (out ++ [s[k]]) (s.data.toList.drop (k + 1))) := Lib.hid (by rw [HR2.out, cutF, hc, h9, hi]; rfl)
              clear e92 h9
              go_wp2_with (first
                | (go_at_call 22; refine (HC.out _).mono ?_; rw [hc]; rintro e w' ⟨rfl, rfl⟩)
                | (go_at_call 21; ((with_reducible refine (HS.out _).mono ?_); rw [hi]; rintro e w' ⟨rfl, rfl⟩))
                | (go_at_call 24; refine (hp.write s[k] (by omega)).mono ?_; rintro e w2 ⟨rfl, hp2, b2⟩))
              exact ⟨⟨k + 1, false, out ++ [s[k]], by omega, rfl, by go_num, by simp; omega, hp2, hB.trans b2, hn⟩, by simp [intOf]; omega⟩
            · have hn : Hid (R = ⟨out, s.data.toList.drop (k + 1), s[k], 0⟩) := Lib.hid (by rw [HR2.out, cutF, hc, h9, hi]; rfl)
              clear e92 h9
              go_upto_region 17 with (first
                | (go_at_call 22; refine (HC.out _).mono ?_; rw [hc]; rintro e w' ⟨rfl, rfl⟩)
                | (go_at_call 21; ((with_reducible refine (HS.out _).mono ?_); rw [hi]; rintro e w' ⟨rfl, rfl⟩)))
              have h2 : (k : Int) ≤ s.size := by omega
              have q1 : IntKind.i64.wrap ((k : Int) + 1) = (k : Int) + 1 := by rw [IntKind.wrap_i64]; omega
              have q2 : ((k : Int) + 1).toNat = k + 1 := by omega
              have q3 : (k : Int) + 1 ≤ s.size := by omega
              have q4 : (0 : Int) ≤ (k : Int) + 1 := by omega
              have hRE := Lib.hid (rest_eq s (k + 1))
              have hV : Hid (Ending.returned (.tuple #[.string ⟨out.toArray⟩, .string (s.extract (k + 1) s.size), .int .u8 (s[k].toNat : Int), .int .i64 0]) = .returned (cutV R)) := Lib.hid (by rw [hn.out, hRE.out]; rfl)
              have HSTR : Hid (∀ W, Bld w.heap.size out W → Calls Tryd.prog 23 #[.pointer (some ⟨w.heap.size, 0, none⟩)] W fun e w' => e = .returned (.string ⟨out.toArray⟩) ∧ Below w.heap.size W w') := Lib.hid (fun W h => h.str)
              go_region_with (first | (go_at_call 23; ((with_reducible refine (HSTR.out _ ?_).mono ?_); (first | exact hp | exact hp.drew); rintro e w2 ⟨rfl, b2⟩)))
              all_goals
                go_wp2_with fail
                (try rw [Exit.noGoto_ret])
                (try simp only [Exit.inBlock, Exit.then])
                refine bodyPost_ret (results_tmp4 rfl _ _ _) rfl ?_
                exact ⟨hV.out, (bdrew hB).trans b2⟩
      · obtain rfl : k = s.size := by omega
        have h1 : ¬ (s.size : Int) < s.size := by omega
        have hd : s.data.toList.drop s.size = [] := List.drop_of_length_le (by simp)
        cases op
        · have hn : Hid (R = ⟨out, [], 0, 0⟩) := Lib.hid (by rw [HR.out, hd, cutF]; rfl)
          clear hd
          go_wp2_with (go_at_call 23; refine hp.str.mono ?_; rintro e w2 ⟨rfl, b2⟩)
          (try rw [Exit.noGoto_ret])
          (try simp only [Exit.inBlock, Exit.then])
          refine bodyPost_ret (results_tmp4 rfl _ _ _) rfl ?_
          exact ⟨by rw [hn.out]; rfl, hB.trans b2⟩
        · have hbad : Hid (R = bad) := Lib.hid (by rw [HR.out, hd, cutF]; rfl)
          clear hd
          go_wp2_with fail
          (try rw [Exit.noGoto_ret])
          (try simp only [Exit.inBlock, Exit.then])
          refine bodyPost_ret (results_tmp4 rfl _ _ _) rfl ?_
          exact ⟨by rw [hbad.out]; exact cutV_bad, hB⟩
end Go.Proofs.YtoaohohnaifjdaaDoor

/- LexPlain. -/
import Derived.Test.YtoaohohnaifjdaaDoorLexF
import Derived.Test.YtoaohohnaifjdaaDoorLexG
import Derived.Test.YtoaohohnaifjdaaDoorLexU
namespace Go.Proofs.YtoaohohnaifjdaaDoor
open Go.RowKit
set_option linter.unusedVariables false
set_option linter.unusedSimpArgs false

set_option maxRecDepth 100000 in
set_option maxHeartbeats 1000000 in
theorem lexPlain_row (s t : ByteArray) (b : Int) (w : World) (hs : s.size ≤ 1048576) (ht : t.size ≤ 1048576) (hb : (Lit.int .u8 b).wf = true) :
    Calls Tryd.prog 8 #[.string s, .string t, .int .u8 b] w fun e w' => e = .returned (.bool true) ∧ Below w.heap.size w w' := by
  have h8 := bounds_u8 hb
  obtain ⟨bn, rfl⟩ := Int.eq_ofNat_of_zero_le h8.1
  obtain ⟨st, hst⟩ : ∃ st : UInt8, st.toNat = bn := ⟨UInt8.ofNat bn, by simp; omega⟩
  have H1 := Lib.hid (fun W => plain_call ⟨#[st]⟩ W (by show 1 ≤ _; omega))
  have H2 := Lib.hid (fun W => plain_call (s ++ t) W (by simp only [ByteArray.size_append]; omega))
  have H3 := Lib.hid (fun W => plain_call s W (by omega))
  have H4 := Lib.hid (fun W => plain_call t W (by omega))
  have H5 := Lib.hid (fun W => escape_call s W (by omega))
  have hel := escape_len s.data.toList
  have hsl : s.data.toList.length = s.size := by simp
  have H6 := Lib.hid (fun W => plain_call ⟨(escape s.data.toList).toArray⟩ W (by
    have e1 : (⟨(escape s.data.toList).toArray⟩ : ByteArray).size = (escape s.data.toList).length := rfl
    rw [e1]; omega))
  have H7 := Lib.hid (fun W => plain_call ⟨#[]⟩ W (by decide))
  have e1 : plainL (⟨#[st]⟩ : ByteArray).data.toList = !ctl st := by simp [plainL]
  have e2 : plainL (s ++ t).data.toList = (plainL s.data.toList && plainL t.data.toList) := by rw [str_app, plain_append]
  have e6 : plainL (⟨(escape s.data.toList).toArray⟩ : ByteArray).data.toList = plainL s.data.toList := plain_escape _
  have e7 : plainL (⟨#[]⟩ : ByteArray).data.toList = true := rfl
  rw [e1] at H1
  rw [e2] at H2
  rw [e6] at H6
  rw [e7] at H7
  have hc : ctl st = (decide (bn < 32) || decide (bn = 127)) := by rw [ctl_nat, hst]
  have HCV := Lib.hid (fun (W : World) (g : Nat) (h : Blk W g 5 #[.int .u8 (bn : Int)]) => conv_blk W g st (by rw [hst]; exact h))
  clear e1 e2 e6 e7 hst hel hsl
  generalize plainL s.data.toList = ps at *
  generalize plainL t.data.toList = pt at *
  generalize ctl st = cs at *
  obtain ⟨z, hz⟩ : ∃ z : ByteArray, (⟨(escape s.data.toList).toArray⟩ : ByteArray) = z := ⟨_, rfl⟩
  rw [hz] at H5 H6
  clear hz
  have hcase : (cs = true ∧ ((bn : Int) < 32 ∨ (¬ (bn : Int) < 32 ∧ bn = 127))) ∨ (cs = false ∧ (32 : Int) ≤ bn ∧ ((bn : Int) != 127) = true) := by
    by_cases h1 : bn < 32
    · exact .inl ⟨by rw [hc]; simp [h1], .inl (by omega)⟩
    · by_cases h2 : bn = 127
      · exact .inl ⟨by rw [hc]; simp [h2], .inr ⟨by omega, h2⟩⟩
      · exact .inr ⟨by rw [hc]; simp [h1, h2], by omega, by simp; omega⟩
  clear hc
  go_enter Tryd.func8, Tryd.ntmps8
  go_wp2_with fail
  refine (examples_any w).mono ?_
  rintro e w1 ⟨rfl, b1⟩
  have c1 := HCV.out _ _ (Blk.new w1 5 #[.int .u8 (bn : Int)])
  have b2 := balloc b1 (.cells #[.int .u8 (bn : Int)] 5)
  go_wp2_with fail
  refine (H1.out _).mono ?_
  rintro e w2 ⟨rfl, hw2⟩
  subst hw2
  clear c1
  generalize (w1.alloc (.cells #[.int .u8 (bn : Int)] 5)) = w3 at *
  cases ps
  all_goals
    cases pt
    all_goals
      rcases hcase with ⟨rfl, h1 | ⟨h1, rfl⟩⟩ | ⟨rfl, h1, h2⟩
      all_goals
        go_wp2_with (first
          | (go_at_call 18; ((with_reducible refine (H2.out _).mono ?_); rintro e w' ⟨rfl, rfl⟩))
          | (go_at_call 18; ((with_reducible refine (H3.out _).mono ?_); rintro e w' ⟨rfl, rfl⟩))
          | (go_at_call 18; ((with_reducible refine (H4.out _).mono ?_); rintro e w' ⟨rfl, rfl⟩))
          | (go_at_call 16; ((with_reducible refine (H5.out _).mono ?_); rintro e wE ⟨rfl, bE⟩; replace b2 := bstep bE b2))
          | (go_at_call 18; ((with_reducible refine (H6.out _).mono ?_); rintro e w' ⟨rfl, rfl⟩))
          | (go_at_call 18; ((with_reducible refine (H7.out _).mono ?_); rintro e w' ⟨rfl, rfl⟩)))
        go_ret
        exact ⟨rfl, b2⟩
end Go.Proofs.YtoaohohnaifjdaaDoor

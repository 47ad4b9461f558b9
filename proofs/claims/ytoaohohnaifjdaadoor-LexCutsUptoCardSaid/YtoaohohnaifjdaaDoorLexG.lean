/- LexBack. -/
import Derived.Test.YtoaohohnaifjdaaDoorLexF
namespace Go.Proofs.YtoaohohnaifjdaaDoor
open Go.RowKit
set_option linter.unusedVariables false
set_option linter.unusedSimpArgs false

theorem str_app (a b : ByteArray) : (a ++ b).data.toList = a.data.toList ++ b.data.toList := by simp
theorem str_back (t : ByteArray) : (⟨t.data.toList.toArray⟩ : ByteArray) = t := by cases t; simp
/-- One byte in a block, as a text. -/
theorem conv_blk (W : World) (g : Nat) (b : UInt8) (h : Blk W g 5 #[.int .u8 (b.toNat : Int)]) : (convert 22 9 (.slice (some ⟨g, 0, none⟩) 1 1)).run Tryd.prog W = .ok (.string ⟨#[b]⟩) W := by
  have := run_convert_bytes_arg (P := Tryd.prog) W 22 5 Tryd.underlying22 Tryd.underlying5 g 0 1 1 (bI [b]) rfl (fun i hi => by
    obtain rfl : i = 0 := by omega
    exact h.cellAt 0 rfl) 9 Tryd.underlying9
  rw [strOf_bI] at this
  exact this
/-- The three stops. -/
def stopS : List UInt8 := [44, 61, 32]
theorem stop_ok {b : UInt8} (h : inB stopS b = true) : esc b = true ∧ b ≠ 92 := by
  unfold inB stopS at h
  simp only [List.contains_cons, List.contains_nil, Bool.or_false, Bool.or_eq_true, beq_iff_eq] at h
  rcases h with rfl | rfl | rfl <;> decide
theorem stop_in {b : UInt8} (h : inB stopS b = true) : ctl b = false := esc_ctl (stop_ok h).1
theorem cut_back (L t : List UInt8) (b : UInt8) (hp : plainL L = true) (hb : inB stopS b = true) : cutL (escape L ++ [b] ++ t) stopS = ⟨L, t, b, 0⟩ := by
  unfold cutL
  rw [show inB stopS 92 = false by decide]
  have h1 := cutF_escape (stops := stopS) (fun b h => stop_ok h) L [] (b :: t) hp
  have h2 := cutF_stop hb (stop_in hb) (stop_ok hb).2 L t
  simp only [List.nil_append] at h1
  rw [h2] at h1
  simpa using h1
theorem cut_back0 (L : List UInt8) (hp : plainL L = true) : cutL (escape L) stopS = ⟨L, [], 0, 0⟩ := by
  unfold cutL
  rw [show inB stopS 92 = false by decide]
  have h1 := cutF_escape (stops := stopS) (fun b h => stop_ok h) L [] [] hp
  simp only [List.nil_append, List.append_nil] at h1
  rw [cutF_end] at h1
  simpa using h1

set_option maxRecDepth 100000 in
set_option maxHeartbeats 2000000 in
theorem lexBack_at (s t : ByteArray) (wh : Nat) (st : UInt8) (w : World) (hs : s.size ≤ 140737488351232) (ht : t.size ≤ 140737488351232) (hwh : wh ≤ 255) (hst : inB stopS st = true) (hix : (wh % 3 = 0 ∧ st = 44) ∨ (wh % 3 = 1 ∧ st = 61) ∨ (wh % 3 = 2 ∧ st = 32)) :
    Calls Tryd.prog 4 #[.string s, .string t, .int .u8 wh] w fun e w' => e = .returned (.bool true) ∧ Below w.heap.size w w' := by
  have hP := plain_law s
  have hlen := plS_len s.data.toList
  have hpl := plS_plain s.data.toList
  generalize plS s.data.toList = L at *
  have hel := escape_len L
  have HC1 : Hid (∀ W, Calls Tryd.prog 11 #[.string (⟨(escape L).toArray⟩ ++ ⟨#[st]⟩ ++ t), .string ⟨#[44, 61, 32]⟩] W fun e w' => e = .returned (.tuple #[.string ⟨L.toArray⟩, .string t, .int .u8 (st.toNat : Int), .int .i64 0]) ∧ Below W.heap.size W w') := Lib.hid (fun W => by
    refine (cut_call _ _ W ?_).mono ?_
    · have e1 : (⟨(escape L).toArray⟩ ++ ⟨#[st]⟩ ++ t : ByteArray).size = (escape L).length + 1 + t.size := by
        simp only [ByteArray.size_append]
        rfl
      rw [e1]
      omega
    · rintro e w' ⟨rfl, h⟩
      refine ⟨?_, h⟩
      have e1 : (⟨(escape L).toArray⟩ ++ ⟨#[st]⟩ ++ t : ByteArray).data.toList = escape L ++ [st] ++ t.data.toList := by rw [str_app, str_app]
      have e2 : (⟨#[44, 61, 32]⟩ : ByteArray).data.toList = stopS := rfl
      rw [e1, e2, cut_back L t.data.toList st hpl hst]
      unfold cutV
      rw [str_back]
      rfl)
  have HC2 : Hid (∀ W, Calls Tryd.prog 11 #[.string ⟨(escape L).toArray⟩, .string ⟨#[44, 61, 32]⟩] W fun e w' => e = .returned (.tuple #[.string ⟨L.toArray⟩, .string ⟨#[]⟩, .int .u8 0, .int .i64 0]) ∧ Below W.heap.size W w') := Lib.hid (fun W => by
    refine (cut_call _ _ W ?_).mono ?_
    · have e1 : (⟨(escape L).toArray⟩ : ByteArray).size = (escape L).length := rfl
      rw [e1]; omega
    · rintro e w' ⟨rfl, h⟩
      refine ⟨?_, h⟩
      have e2 : (⟨#[44, 61, 32]⟩ : ByteArray).data.toList = stopS := rfl
      have e1 : (⟨(escape L).toArray⟩ : ByteArray).data.toList = escape L := rfl
      rw [e1, e2, cut_back0 L hpl]
      rfl)
  have HE : Hid (∀ W, Calls Tryd.prog 16 #[.string ⟨L.toArray⟩] W fun e w' => e = .returned (.string ⟨(escape L).toArray⟩) ∧ Below W.heap.size W w') := Lib.hid (fun W => by
    refine (escape_call ⟨L.toArray⟩ W ?_).mono ?_
    · have e1 : (⟨L.toArray⟩ : ByteArray).size = L.length := rfl
      rw [e1]; omega
    · rintro e w' ⟨rfl, h⟩
      exact ⟨rfl, h⟩)
  have HP := Lib.hid hP
  have hz : (⟨(escape L).toArray⟩ : ByteArray).size = (escape L).length := rfl
  have hz2 : (⟨L.toArray⟩ : ByteArray).size = L.length := rfl
  obtain ⟨y, hy⟩ : ∃ y : ByteArray, (⟨L.toArray⟩ : ByteArray) = y := ⟨_, rfl⟩
  obtain ⟨z, hz'⟩ : ∃ z : ByteArray, (⟨(escape L).toArray⟩ : ByteArray) = z := ⟨_, rfl⟩
  rw [hy] at HC1 HC2 HE HP hz2
  rw [hz'] at HC1 HC2 HE hz
  have hge : (y.size : Int) ≤ z.size := by omega
  have hzl : z.size ≤ 120 := by omega
  clear hy hz' hP hz hz2 hel hpl hlen
  go_enter Tryd.func4, Tryd.ntmps4
  go_wp2_with fail
  refine (examples_any w).mono ?_
  rintro e w1 ⟨rfl, b1⟩
  go_wp2_with fail
  refine (HP.out w1 (by omega)).mono ?_
  rintro e w2 ⟨rfl, b2⟩
  have b12 := bstep b2 b1
  clear b1 b2
  have hix2 : ((wh : Int) % 3 = 0 ∧ st = 44) ∨ ((wh : Int) % 3 = 1 ∧ st = 61) ∨ ((wh : Int) % 3 = 2 ∧ st = 32) := by
    rcases hix with ⟨h, h2⟩ | ⟨h, h2⟩ | ⟨h, h2⟩
    · exact .inl ⟨by omega, h2⟩
    · exact .inr (.inl ⟨by omega, h2⟩)
    · exact .inr (.inr ⟨by omega, h2⟩)
  clear hix
  obtain ⟨v, hv⟩ : ∃ v : Nat, st.toNat = v := ⟨_, rfl⟩
  have hcv := fun (W : World) (g : Nat) (h : Blk W g 5 #[.int .u8 (v : Int)]) => conv_blk W g st (by rw [hv]; exact h)
  rw [hv] at HC1
  have HCV := Lib.hid hcv
  clear hcv
  have hsel : ((wh : Int) % 3 = 0 ∧ ((⟨#[44, 61, 32]⟩ : ByteArray)[0]'(by decide)).toNat = v) ∨ ((wh : Int) % 3 = 1 ∧ ((⟨#[44, 61, 32]⟩ : ByteArray)[1]'(by decide)).toNat = v) ∨ ((wh : Int) % 3 = 2 ∧ ((⟨#[44, 61, 32]⟩ : ByteArray)[2]'(by decide)).toNat = v) := by
    rcases hix2 with ⟨h, h2⟩ | ⟨h, h2⟩ | ⟨h, h2⟩
    · exact .inl ⟨h, by rw [← hv, h2]; rfl⟩
    · exact .inr (.inl ⟨h, by rw [← hv, h2]; rfl⟩)
    · exact .inr (.inr ⟨h, by rw [← hv, h2]; rfl⟩)
  clear hix2 hv hst
  go_upto_region 5 with fail
  go_cut [8] from 22 (fun x wx => x = .int .u8 (v : Int) ∧ wx = w2)
  case first =>
    rcases hsel with ⟨h, hv⟩ | ⟨h, hv⟩ | ⟨h, hv⟩
    all_goals
      have HV := Lib.hid hv
      clear hv
      go_wp2_with fail
      go_meet
      exact ⟨by rw [HV.out], rfl⟩
  case rest =>
    obtain ⟨rfl, rfl⟩ := hcut
    clear hsel
    go_upto_region 6 with fail
    have c1 := HCV.out _ _ (Blk.new wc 5 #[.int .u8 (v : Int)])
    have c2 := HCV.out _ _ (Blk.new wc 5 #[.int .u8 (v : Int)]).drew
    go_region_with (first
      | (go_at_call 16; refine (HE.out _).mono ?_; rintro e wA ⟨rfl, bA⟩; have hc3 := HCV.out _ _ (Blk.new wA 5 #[.int .u8 (v : Int)]); (first | have hcA := HCV.out _ _ (Blk.step bA (Blk.new wc 5 #[.int .u8 (v : Int)]).drew) | have hcA := HCV.out _ _ (Blk.step bA (Blk.new wc 5 #[.int .u8 (v : Int)])) | skip); (first | have bE := bstep bA (bdrew b12) | have bE := bstep bA (bdrew (balloc b12 (.cells #[.int .u8 (v : Int)] 5)))))
      | (go_at_call 11; ((with_reducible refine (HC1.out _).mono ?_); rintro e wB ⟨rfl, bB⟩; (first | have bC := bstep bB bE | have bC := bstep bB (balloc bE (.cells #[.int .u8 (v : Int)] 5))))))
    all_goals
      clear c1 c2
      go_wp2_with (first
        | (go_at_call 16; ((with_reducible refine (HE.out _).mono ?_); rintro e wD ⟨rfl, bD⟩; replace bC := bstep bD bC; clear bD))
        | (go_at_call 11; ((with_reducible refine (HC2.out _).mono ?_); rintro e wE ⟨rfl, bD⟩; replace bC := bstep bD bC; clear bD)))
      go_ret
      exact ⟨ret_bool (by simp), bC⟩
theorem lexBack_row (s t : ByteArray) (wh : Int) (w : World) (hs : s.size ≤ 140737488351232) (ht : t.size ≤ 140737488351232) (hwh : (Lit.int .u8 wh).wf = true) :
    Calls Tryd.prog 4 #[.string s, .string t, .int .u8 wh] w fun e w' => e = .returned (.bool true) ∧ Below w.heap.size w w' := by
  have h := bounds_u8 hwh
  obtain ⟨q, rfl⟩ := Int.eq_ofNat_of_zero_le h.1
  have hq : q % 3 = 0 ∨ q % 3 = 1 ∨ q % 3 = 2 := by omega
  rcases hq with h0 | h0 | h0
  · exact lexBack_at s t q 44 w hs ht (by omega) (by decide) (.inl ⟨h0, rfl⟩)
  · exact lexBack_at s t q 61 w hs ht (by omega) (by decide) (.inr (.inl ⟨h0, rfl⟩))
  · exact lexBack_at s t q 32 w hs ht (by omega) (by decide) (.inr (.inr ⟨h0, rfl⟩))
end Go.Proofs.YtoaohohnaifjdaaDoor

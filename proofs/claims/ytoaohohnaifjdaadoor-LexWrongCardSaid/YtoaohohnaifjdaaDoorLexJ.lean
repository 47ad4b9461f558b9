/- LexWrong. -/
import Derived.Test.YtoaohohnaifjdaaDoorLexG
namespace Go.Proofs.YtoaohohnaifjdaaDoor
open Go.RowKit
set_option linter.unusedVariables false
set_option linter.unusedSimpArgs false

/-- Where a token ends in an escaped text: after some of its bytes. -/
def Bound (L : List UInt8) (k : Nat) : Prop := ∃ j, j ≤ L.length ∧ (escape L).take k = escape (L.take j) ∧ k = (escape (L.take j)).length
theorem bound0 (L : List UInt8) : Bound L 0 := ⟨0, Nat.zero_le _, by simp [escape], by simp [escape]⟩
theorem escape_take (L : List UInt8) (j : Nat) : escape L = escape (L.take j) ++ escape (L.drop j) := by rw [← escape_append, List.take_append_drop]
theorem escape_get (L : List UInt8) (j k : Nat) (hj : j < L.length) (hk : k = (escape (L.take j)).length) : (escape L)[k]? = some (if esc L[j] then 92 else L[j]) := by
  rw [escape_take L j, List.getElem?_append_right (by omega), hk, Nat.sub_self, List.drop_eq_getElem_cons hj, escape_cons]
  split <;> rfl
theorem bound_take {L : List UInt8} {j : Nat} (hj : j ≤ L.length) : Bound L (escape (L.take j)).length := ⟨j, hj, by
  rw [escape_take L j, List.take_append_of_le_length (Nat.le_refl _), List.take_length], rfl⟩
/-- The next token. -/
theorem bound_next {L : List UInt8} {k : Nat} (h : Bound L k) (hk : k < (escape L).length) : ∃ b, (escape L)[k]? = some b ∧ ((b = 92 ∧ Bound L (k + 2)) ∨ (b ≠ 92 ∧ Bound L (k + 1))) := by
  obtain ⟨j, hj, ht, hke⟩ := h
  have hjl : j < L.length := by
    rcases Nat.lt_or_ge j L.length with h | h
    · exact h
    · rw [List.take_of_length_le h] at hke; omega
  have hs : escape (L.take (j + 1)) = escape (L.take j) ++ (if esc L[j] then [92, L[j]] else [L[j]]) := by
    rw [List.take_succ_eq_append_getElem hjl, escape_append]
    congr 1
    rw [escape_cons]
    simp [escape]
  refine ⟨_, escape_get L j k hjl hke, ?_⟩
  have hb := bound_take (L := L) (j := j + 1) (by omega)
  rw [hs, List.length_append, ← hke] at hb
  by_cases he : esc L[j] = true
  · rw [if_pos he] at hb ⊢
    exact .inl ⟨rfl, hb⟩
  · rw [if_neg he] at hb ⊢
    refine .inr ⟨fun e => he (by rw [e]; decide), hb⟩
/-- What is put in at a token's end is not read. -/
theorem cut_wrong (L : List UInt8) (k : Nat) (bd : List UInt8) (hp : plainL L = true) (hb : Bound L k) (hbad : ∀ out r, cutF [] false out (bd ++ r) = bad) : cutL ((escape L).take k ++ bd ++ (escape L).drop k) [] = bad := by
  obtain ⟨j, hj, ht, hke⟩ := hb
  unfold cutL
  rw [show inB [] 92 = false by decide]
  have hpj : plainL (L.take j) = true := by
    unfold plainL at hp ⊢
    rw [List.all_eq_true] at hp ⊢
    exact fun b hb => hp b (List.mem_of_mem_take hb)
  have h1 := cutF_escape (stops := []) (fun b h => by cases h) (L.take j) [] (bd ++ (escape L).drop k) hpj
  rw [ht, List.append_assoc]
  simp only [Bool.false_eq_true, if_false]
  rw [h1, hbad]
theorem cut_open (L : List UInt8) (hp : plainL L = true) : cutL (escape L ++ [92]) [] = bad := by
  unfold cutL
  rw [show inB [] 92 = false by decide]
  have h1 := cutF_escape (stops := []) (fun b h => by cases h) L [] [92] hp
  simp only [Bool.false_eq_true, if_false]
  rw [h1]
  rfl
/-- The six. -/
def badS (q : Nat) : List UInt8 := match q with
  | 0 => [0] | 1 => [31] | 2 => [127] | 3 => [10] | 4 => [92, 97] | _ => [92, 35]
theorem badS_bad (q : Nat) : ∀ out r, cutF [] false out (badS q ++ r) = bad := by
  intro out r
  unfold badS
  split <;> rfl
theorem badS_len (q : Nat) : (badS q).length ≤ 2 := by
  unfold badS
  split <;> decide
theorem wrong_cut (z bv : ByteArray) (L : List UInt8) (k : Nat) (HZ : z.data.toList = escape L) (hpl : plainL L = true) (hb : Bound L k) (HBV : ∀ out r, cutF [] false out (bv.data.toList ++ r) = bad) (hz : z.size ≤ 120) (hbs : bv.size ≤ 2) (W : World) :
    Calls Tryd.prog 11 #[.string (z.extract 0 k ++ bv ++ z.extract k z.size), .string ⟨#[]⟩] W fun e w' => e = .returned (.tuple #[.string ⟨#[]⟩, .string ⟨#[]⟩, .int .u8 0, .int .i64 2]) ∧ Below W.heap.size W w' := by
  have hx1 : (z.extract 0 k).size ≤ 120 := by rw [ByteArray.size_extract]; omega
  have hx2 : (z.extract k z.size).size ≤ 120 := by rw [ByteArray.size_extract]; omega
  have hsz : (z.extract 0 k ++ bv ++ z.extract k z.size).size ≤ 140737488355327 := by
    rw [ByteArray.size_append, ByteArray.size_append]; omega
  refine (cut_call _ ⟨#[]⟩ W hsz).mono ?_
  rintro e w' ⟨rfl, h⟩
  refine ⟨?_, h⟩
  have e1 : (z.extract 0 k ++ bv ++ z.extract k z.size).data.toList = (escape L).take k ++ bv.data.toList ++ (escape L).drop k := by
    rw [str_app, str_app, rest_eq, HZ]
    have e2 : (z.extract 0 k).data.toList = (escape L).take k := by
      rw [← HZ]; simp
    rw [e2]
  have e3 : (⟨#[]⟩ : ByteArray).data.toList = [] := rfl
  rw [e1, e3, cut_wrong L k _ hpl hb HBV]
  exact cutV_bad.symm
theorem open_cut' (z bs : ByteArray) (L : List UInt8) (hbs : bs.data.toList = [92]) (hb1 : bs.size = 1) (HZ : z.data.toList = escape L) (hpl : plainL L = true) (hz : z.size ≤ 120) (W : World) :
    Calls Tryd.prog 11 #[.string (z ++ bs), .string ⟨#[]⟩] W fun e w' => e = .returned (.tuple #[.string ⟨#[]⟩, .string ⟨#[]⟩, .int .u8 0, .int .i64 2]) ∧ Below W.heap.size W w' := by
  have hsz : (z ++ bs : ByteArray).size ≤ 140737488355327 := by
    rw [ByteArray.size_append]; omega
  refine (cut_call (z ++ bs) ⟨#[]⟩ W hsz).mono ?_
  rintro e w' ⟨rfl, h⟩
  refine ⟨?_, h⟩
  have e1 : (z ++ bs : ByteArray).data.toList = escape L ++ [92] := by rw [str_app, HZ, hbs]
  have e3 : (⟨#[]⟩ : ByteArray).data.toList = [] := rfl
  rw [e1, e3, cut_open L hpl]
  exact cutV_bad.symm
set_option maxRecDepth 100000 in
set_option maxHeartbeats 2000000 in
theorem lexWrong_at (s : ByteArray) (at_ wh : Nat) (w : World) (hs : s.size ≤ 140737488351232) (hat : at_ ≤ 255) (hwh : wh ≤ 255) :
    Calls Tryd.prog 6 #[.string s, .int .u8 at_, .int .u8 wh] w fun e w' => e = .returned (.bool true) ∧ Below w.heap.size w w' := by
  have HP := Lib.hid (fun W => plain_law s W (by omega))
  have hlen := plS_len s.data.toList
  have hpl := Lib.hid (plS_plain s.data.toList)
  generalize plS s.data.toList = L at *
  have hel := (escape_len L).2
  have HE : Hid (∀ W, Calls Tryd.prog 16 #[.string ⟨L.toArray⟩] W fun e w' => e = .returned (.string ⟨(escape L).toArray⟩) ∧ Below W.heap.size W w') := Lib.hid (fun W => by
    refine (escape_call ⟨L.toArray⟩ W ?_).mono ?_
    · have e1 : (⟨L.toArray⟩ : ByteArray).size = L.length := rfl
      rw [e1]; omega
    · rintro e w' ⟨rfl, h⟩
      exact ⟨rfl, h⟩)
  have hzd : (⟨(escape L).toArray⟩ : ByteArray).data.toList = escape L := rfl
  have hzs : (⟨(escape L).toArray⟩ : ByteArray).size = (escape L).length := rfl
  generalize (⟨(escape L).toArray⟩ : ByteArray) = z at *
  obtain ⟨y, hy⟩ : ∃ y : ByteArray, (⟨L.toArray⟩ : ByteArray) = y := ⟨_, rfl⟩
  rw [hy] at HP HE
  have hz120 : z.size ≤ 120 := by omega
  have HZ := Lib.hid hzd
  have HZS := Lib.hid hzs
  clear hy hzd hzs hel hlen
  go_enter Tryd.func6, Tryd.ntmps6
  go_wp2_with fail
  refine (examples_any w).mono ?_
  rintro e w1 ⟨rfl, b1⟩
  go_wp2_with fail
  refine (HP.out _).mono ?_
  rintro e w2 ⟨rfl, b2⟩
  go_wp2_with fail
  refine (HE.out _).mono ?_
  rintro e w3 ⟨rfl, b3⟩
  have b13 := bstep b3 (bstep b2 b1)
  clear b1 b2 b3
  obtain ⟨q, hq, hq6⟩ : ∃ q : Nat, (wh : Int) % 6 = (q : Int) ∧ q < 6 := ⟨wh % 6, by omega, by omega⟩
  go_upto_region 6 with fail
  obtain ⟨bv, hbv⟩ : ∃ bv : ByteArray, (⟨(badS q).toArray⟩ : ByteArray) = bv := ⟨_, rfl⟩
  have hb8 : ∀ h, ([Value.string ⟨#[0]⟩, Value.string ⟨#[31]⟩, Value.string ⟨#[127]⟩, Value.string ⟨#[10]⟩, Value.string ⟨#[92, 97]⟩, Value.string ⟨#[92, 35]⟩] : List Value)[q]'h = .string bv := by
    intro h
    rw [← hbv]
    match q, hq6 with
    | 0, _ => rfl
    | 1, _ => rfl
    | 2, _ => rfl
    | 3, _ => rfl
    | 4, _ => rfl
    | 5, _ => rfl
  rw [hb8]
  have hbs : bv.size ≤ 2 := by rw [← hbv]; exact badS_len q
  have HBV : Hid (∀ out r, cutF [] false out (bv.data.toList ++ r) = bad) := Lib.hid (by rw [← hbv]; exact badS_bad q)
  obtain ⟨m, hm, hml⟩ : ∃ m : Nat, (at_ : Int).tmod ((z.size : Int) + 1) = (m : Int) ∧ m ≤ z.size := by
    rw [Int.tmod_eq_emod_of_nonneg (by omega)]
    have h1 := Int.emod_nonneg (at_ : Int) (b := (z.size : Int) + 1) (by omega)
    have h2 := Int.emod_lt_of_pos (at_ : Int) (b := (z.size : Int) + 1) (by omega)
    exact ⟨((at_ : Int) % ((z.size : Int) + 1)).toNat, by omega, by omega⟩
  have hm2 : (at_ : Int) % ((z.size : Int) + 1) = (m : Int) := by rw [← hm, Int.tmod_eq_emod_of_nonneg (by omega)]
  clear hb8 hbv hq
  have b14 := balloc b13 (.cells #[Value.string ⟨#[0]⟩, Value.string ⟨#[31]⟩, Value.string ⟨#[127]⟩, Value.string ⟨#[10]⟩, Value.string ⟨#[92, 97]⟩, Value.string ⟨#[92, 35]⟩] 9)
  generalize (w3.alloc (.cells #[Value.string ⟨#[0]⟩, Value.string ⟨#[31]⟩, Value.string ⟨#[127]⟩, Value.string ⟨#[10]⟩, Value.string ⟨#[92, 97]⟩, Value.string ⟨#[92, 35]⟩] 9)) = w4 at *
  have hz1 : (z.size : Int) + 1 ≤ 9223372036854775807 := by omega
  go_wp2_with fail
  go_loop [9, 10] (fun kv iv => ∃ k : Nat, kv = .int .i64 k ∧ iv = .int .i64 k ∧ k ≤ z.size ∧ Hid (Bound L k)) (fun _ iv => z.size - (intOf iv).toNat)
  case atStart => exact ⟨0, rfl, rfl, Nat.zero_le _, Lib.hid (bound0 L)⟩
  case round =>
    obtain ⟨k, rfl, rfl, hkz, hb⟩ := hrel
    by_cases hkm : k < m
    · have hkl : k < z.size := by omega
      obtain ⟨b, hgb, hnx⟩ := bound_next hb.out (by rw [← HZS.out]; exact hkl)
      have hgz : (z[k]'hkl).toNat = b.toNat := by
        have h1 := str_get z k hkl
        have h2 : z.data.toList[k]? = some b := by rw [HZ.out]; exact hgb
        rw [List.getElem?_eq_getElem (by simpa using hkl)] at h2
        rw [h1]
        exact congrArg _ (Option.some.inj h2)
      have hbd : ∀ k', Bound L k' → k' ≤ z.size := fun k' h => by
        obtain ⟨j, hj, ht, hke⟩ := h
        have h1 : ((escape L).take k').length = k' := by rw [ht, ← hke]
        rw [List.length_take] at h1
        have := HZS.out
        omega
      have g1 : (k : Int) < m := by omega
      have g2 : (k : Int) < z.size := by omega
      rcases hnx with ⟨rfl, hn⟩ | ⟨hne, hn⟩
      · have g3 : (((92 : UInt8).toNat : Nat) : Int) = 92 := rfl
        have hle := hbd _ hn
        have HN := Lib.hid hn
        have hgz' : (z[k]'hkl).toNat = 92 := hgz
        clear hbd hn hgb hgz g3
        go_wp2_with fail
        exact ⟨⟨k + 2, by go_num, by go_num, hle, HN⟩, by simp [intOf]; omega⟩
      · have g3 : ((b.toNat : Int) == 92) = false := by rw [← is92]; simpa using hne
        have hle := hbd _ hn
        have HN := Lib.hid hn
        clear hbd hn hgb hne
        generalize b.toNat = bn at *
        go_wp2_with fail
        exact ⟨⟨k + 1, by go_num, by go_num, hle, HN⟩, by simp [intOf]; omega⟩
    · have g1 : ¬ (k : Int) < m := by omega
      have g2 : (k : Int) ≤ z.size := by omega
      have hx1 : (z.extract 0 k).size ≤ 120 := by rw [ByteArray.size_extract]; omega
      have hx2 : (z.extract k z.size).size ≤ 120 := by rw [ByteArray.size_extract]; omega
      have HC1 : Hid (∀ W, Calls Tryd.prog 11 #[.string (z.extract 0 k ++ bv ++ z.extract k z.size), .string ⟨#[]⟩] W fun e w' => e = .returned (.tuple #[.string ⟨#[]⟩, .string ⟨#[]⟩, .int .u8 0, .int .i64 2]) ∧ Below W.heap.size W w') := Lib.hid (fun W => wrong_cut z bv L k HZ.out hpl.out hb.out HBV.out hz120 hbs W)
      have HC2 : Hid (∀ W, Calls Tryd.prog 11 #[.string (z ++ ⟨#[92]⟩), .string ⟨#[]⟩] W fun e w' => e = .returned (.tuple #[.string ⟨#[]⟩, .string ⟨#[]⟩, .int .u8 0, .int .i64 2]) ∧ Below W.heap.size W w') := Lib.hid (fun W => open_cut' z ⟨#[92]⟩ L rfl rfl HZ.out hpl.out hz120 W)
      clear HP HE HBV hb
      go_upto_region 13 with fail
      have q2 : min (k : Int) (z.size : Int) = (k : Int) := by omega
      have q3 : ¬ (z.size : Int) < (k : Int) := by omega
      clear hm hm2 hml hq6 g1 hz1
      go_region_with (first | (go_at_call 11; ((with_reducible refine (HC1.out _).mono ?_); rintro e w5 ⟨rfl, b5⟩; (first | have b15 := bstep b5 b14 | have b15 := bstep b5 (bdrew b14)))))
      all_goals
        go_wp2_with (first | (go_at_call 11; ((with_reducible refine (HC2.out _).mono ?_); rintro e w6 ⟨rfl, b6⟩; have b16 := bstep b6 b15)))
        go_ret
        exact ⟨ret_bool (by simp), b16⟩
theorem lexWrong_row (s : ByteArray) (at_ wh : Int) (w : World) (hs : s.size ≤ 140737488351232) (hat : (Lit.int .u8 at_).wf = true) (hwh : (Lit.int .u8 wh).wf = true) :
    Calls Tryd.prog 6 #[.string s, .int .u8 at_, .int .u8 wh] w fun e w' => e = .returned (.bool true) ∧ Below w.heap.size w w' := by
  have h := bounds_u8 hwh
  have h2 := bounds_u8 hat
  obtain ⟨q, rfl⟩ := Int.eq_ofNat_of_zero_le h.1
  obtain ⟨p, rfl⟩ := Int.eq_ofNat_of_zero_le h2.1
  exact lexWrong_at s p q w hs (by omega) (by omega)
end Go.Proofs.YtoaohohnaifjdaaDoor

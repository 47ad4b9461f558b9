/- The walk of HllWrong: it returns true, whatever it is given; what lay in memory stays. -/
import Derived.Test.YtjliamckoggnbaaDoorHllG
import Derived.Deep.DeepCutAuto
import Derived.Laws.MakeOwn
import Derived.Deep.OwnRows
namespace Go.Proofs.YtjliamckoggnbaaDoor
open Go.RowKit
set_option linter.unusedVariables false
set_option linter.unusedSimpArgs false

/-- May there be so many registers? -/
def mayB (n : Nat) : Bool := n == 16 || n == 32 || n == 64 || n == 128 || n == 256 || n == 512 || n == 1024

theorem may_at (n k : Nat) (hk : mayB k = true) (h : (n : Int) = (k : Int)) : mayB n = true := by
  obtain rfl : n = k := by omega
  exact hk
theorem may_no (n : Nat) (h16 : ((n : Int) == 16) = false) (h32 : ((n : Int) == 32) = false) (h64 : ((n : Int) == 64) = false) (h128 : ((n : Int) == 128) = false) (h256 : ((n : Int) == 256) = false)
    (h512 : ((n : Int) == 512) = false) (h1024 : ((n : Int) == 1024) = false) : mayB n = false := by
  simp only [beq_eq_false_iff_ne, ne_eq] at *
  unfold mayB
  simp only [Bool.or_eq_false_iff, beq_eq_false_iff_ne, ne_eq]
  omega

theorem may_iff (n : Nat) (hn : n < 1100) : mayB n = true ↔ ∃ b, 4 ≤ b ∧ b ≤ 10 ∧ n = 2 ^ b := by
  constructor
  · intro h
    unfold mayB at h
    simp only [Bool.or_eq_true, beq_iff_eq] at h
    rcases h with (((((h | h) | h) | h) | h) | h) | h
    · exact ⟨4, by omega, by omega, h⟩
    · exact ⟨5, by omega, by omega, h⟩
    · exact ⟨6, by omega, by omega, h⟩
    · exact ⟨7, by omega, by omega, h⟩
    · exact ⟨8, by omega, by omega, h⟩
    · exact ⟨9, by omega, by omega, h⟩
    · exact ⟨10, by omega, by omega, h⟩
  · rintro ⟨b, h1, h2, rfl⟩
    rcases (show b = 4 ∨ b = 5 ∨ b = 6 ∨ b = 7 ∨ b = 8 ∨ b = 9 ∨ b = 10 by omega) with rfl | rfl | rfl | rfl | rfl | rfl | rfl <;> decide
theorem info_u8 : (Tryd.prog.info? 5).map (fun i => (i.zero, i.size, i.bytes)) = some (some (.int .u8 0), 1, 1) := by kernel_rfl
theorem made_get (n i : Nat) (h : i < n) : (madeCells #[Value.int .u8 0] n)[i]? = some (.int .u8 0) := by
  rw [← Array.getElem?_toList, toList_madeCells_one, List.getElem?_replicate, if_pos h]
theorem made_set (n k i : Nat) (v : Int) (hi : i < n) (hk : k < n) : ((madeCells #[Value.int .u8 0] n).setIfInBounds k (.int .u8 v))[i]? = some (.int .u8 (((List.replicate n 0).set k v).getD i 0)) := by
  rw [Array.getElem?_setIfInBounds]
  by_cases hik : k = i
  · subst hik
    rw [if_pos rfl, if_pos (by rw [← Array.length_toList, toList_madeCells_one]; simpa using hk)]
    simp [List.getD_eq_getElem?_getD, hk]
  · rw [if_neg hik, made_get n i hi]
    simp [List.getD_eq_getElem?_getD, List.getElem?_set, hik, List.getElem?_replicate, hi]
theorem bI_str (xs : List Int) (h : ∀ x ∈ xs, 0 ≤ x ∧ x ≤ 255) : bI (strOfNums xs) = xs := by
  unfold bI
  rw [strOfNums_data, List.map_map]
  conv => rhs; rw [← List.map_id xs]
  refine List.map_congr_left (fun x hx => ?_)
  have := h x hx
  simp only [Function.comp, id, UInt8.toNat_ofNat']
  omega
theorem set_all (n k : Nat) (v : Int) (hk : k < n) (hv : 0 ≤ v ∧ v ≤ 255) : bI (strOfNums ((List.replicate n 0).set k v)) = (List.replicate n 0).set k v ∧ ((∀ x ∈ (List.replicate n (0 : Int)).set k v, x ≤ 26) ↔ v ≤ 26) := by
  refine ⟨bI_str _ (fun x hx => ?_), ?_⟩
  · rcases List.mem_or_eq_of_mem_set hx with h | h
    · rw [List.eq_of_mem_replicate h]; omega
    · omega
  · constructor
    · intro h
      exact h v (List.mem_iff_getElem.2 ⟨k, by simpa using hk, by simp⟩)
    · intro h x hx
      rcases List.mem_or_eq_of_mem_set hx with h1 | h1
      · rw [List.eq_of_mem_replicate h1]; omega
      · omega
/-- A new row of bytes as a text. -/
theorem conv_new (W : World) (cs : Array Value) (xs : List Int) (n c : Nat) (hl : xs.length = n) (h : ∀ i, i < n → cs[i]? = some (.int .u8 (xs.getD i 0))) :
    (convert 23 9 (.slice (some ⟨W.heap.size, 0, none⟩) n c)).run Tryd.prog (W.alloc (.cells cs 5)) = .ok (.string (strOfNums xs)) (W.alloc (.cells cs 5)) :=
  run_convert_bytes_arg (P := Tryd.prog) _ 23 5 Tryd.underlying23 Tryd.underlying5 W.heap.size 0 n c xs hl (fun i hi => by rw [Nat.zero_add]; exact (Blk.new W 5 cs).cellAt i (h i hi)) 9 Tryd.underlying9
set_option maxRecDepth 100000 in
set_option maxHeartbeats 1000000 in
theorem wrong_walk (many at_ by_ bits : Int) (w : World) (hT : Tab w) (h1 : 0 ≤ many ∧ many ≤ 65535) (h2 : 0 ≤ at_ ∧ at_ ≤ 65535) (h3 : 0 ≤ by_ ∧ by_ ≤ 255) :
    Calls Tryd.prog 6 #[.int .u16 many, .int .u16 at_, .int .u8 by_, .int .i64 bits] w fun e w' => e = .returned (.bool true) ∧ Below w.heap.size w w' := by
  go_enter Tryd.func6, Tryd.ntmps6
  go_wp2_with fail
  refine (examples_any _ hT).mono ?_
  rintro e w1 ⟨rfl, b1⟩
  obtain ⟨n, hn⟩ := Int.eq_ofNat_of_zero_le (show 0 ≤ many % 1100 by omega)
  have hn2 : n < 1100 := by omega
  go_upto_region 5 with fail
  go_cut [11] (fun v wx => v = .bool (mayB n) ∧ wx = w1)
  case first =>
    cases h16 : ((n : Int) == 16)
    · skip
      cases h32 : ((n : Int) == 32)
      · skip
        cases h64 : ((n : Int) == 64)
        · skip
          cases h128 : ((n : Int) == 128)
          · skip
            cases h256 : ((n : Int) == 256)
            · skip
              cases h512 : ((n : Int) == 512)
              · skip
                cases h1024 : ((n : Int) == 1024)
                · skip
                  go_wp2_with fail
                  go_meet
                  exact ⟨congrArg Value.bool (may_no n h16 h32 h64 h128 h256 h512 h1024).symm, rfl⟩
                · go_wp2_with fail
                  go_meet
                  exact ⟨congrArg Value.bool (may_at n 1024 (by decide) (by simpa using h1024)).symm, rfl⟩
              · go_wp2_with fail
                go_meet
                exact ⟨congrArg Value.bool (may_at n 512 (by decide) (by simpa using h512)).symm, rfl⟩
            · go_wp2_with fail
              go_meet
              exact ⟨congrArg Value.bool (may_at n 256 (by decide) (by simpa using h256)).symm, rfl⟩
          · go_wp2_with fail
            go_meet
            exact ⟨congrArg Value.bool (may_at n 128 (by decide) (by simpa using h128)).symm, rfl⟩
        · go_wp2_with fail
          go_meet
          exact ⟨congrArg Value.bool (may_at n 64 (by decide) (by simpa using h64)).symm, rfl⟩
      · go_wp2_with fail
        go_meet
        exact ⟨congrArg Value.bool (may_at n 32 (by decide) (by simpa using h32)).symm, rfl⟩
    · go_wp2_with fail
      go_meet
      exact ⟨congrArg Value.bool (may_at n 16 (by decide) (by simpa using h16)).symm, rfl⟩
  case rest =>
    obtain ⟨rfl, rfl⟩ := hcut
    have hmk := run_make_row' (P := Tryd.prog) 23 5 (.int .u8 0) 1 Tryd.underlying23 info_u8 rfl .i64 .i64 n (by omega) (by omega)
    have hcv := fun W => conv_new W (madeCells #[Value.int .u8 0] n) (List.replicate n 0) n n (by simp) (fun i hi => by rw [made_get n i hi]; simp [List.getD_eq_getElem?_getD, List.getElem?_replicate, hi])
    have hS : (strOfNums (List.replicate n 0)).size = n := by rw [strOfNums_size]; simp
    have hI : bI (strOfNums (List.replicate n 0)) = List.replicate n 0 := bI_str _ (fun x hx => by rw [List.eq_of_mem_replicate hx]; omega)
    have hZ : ∀ i, i < n → (madeCells #[Value.int .u8 0] n)[i]? = some (.int .u8 0) := made_get n
    generalize strOfNums (List.replicate n 0) = S at *
    generalize madeCells #[Value.int .u8 0] n = Z at *
    have HS := Lib.hid hS
    have HI := Lib.hid hI
    clear hS hI hZ
    go_wp2_with fail
    refine (Of_any S _ (by rw [HS.out]; omega)).mono ?_
    rintro e w2 ⟨b2, h2⟩
    have hB := bstep b2 (balloc b1 (.cells Z 5))
    clear b1 b2 hmk hcv
    obtain ⟨ev, hev, rfl⟩ : ∃ ev : Int × Option Addr, ((ev.1 = 0 ∧ mayB n = true) ∨ (ev.1 = 2 ∧ mayB n = false)) ∧ e = .returned (.tuple #[.pointer ev.2, .int .i64 ev.1]) := by
      have hiff : OkS S ↔ mayB n = true := by
        rw [may_iff n hn2]
        unfold OkS
        rw [HS.out, HI.out]
        constructor
        · rintro ⟨h, _⟩; exact h
        · intro h; exact ⟨h, fun x hx => by rw [List.eq_of_mem_replicate hx]; omega⟩
      rcases h2 with ⟨hok, g, b, rfl, _, _⟩ | ⟨hno, rfl⟩
      · exact ⟨(0, some ⟨g, 0, none⟩), .inl ⟨rfl, hiff.1 hok⟩, rfl⟩
      · exact ⟨(2, none), .inr ⟨rfl, by rw [← Bool.not_eq_true]; exact fun h => hno (hiff.2 h)⟩, rfl⟩
    obtain ⟨ev, ea⟩ := ev
    generalize mayB n = mb at *
    clear h2
    clear HS HI hn2
    obtain ⟨k, hk⟩ := Int.eq_ofNat_of_zero_le (show 0 ≤ at_ % 64 by omega)
    have hk2 : k < 64 := by omega
    have hk3 : (k : Int) < 64 := by omega
    have hmk : ∀ w, (Instr.makeSlice 23 (.int .i64 64) (.int .i64 64)).run Tryd.prog w = .ok (.slice (some ⟨w.heap.size, 0, none⟩) 64 64) (w.alloc (.cells (madeCells #[Value.int .u8 0] 64) 5)) := run_make_row' (P := Tryd.prog) 23 5 (.int .u8 0) 1 Tryd.underlying23 info_u8 rfl .i64 .i64 64 (by omega) (by omega)
    have hcv := fun W => conv_new W ((madeCells #[Value.int .u8 0] 64).setIfInBounds k (.int .u8 by_)) ((List.replicate 64 0).set k by_) 64 64 (by rw [List.length_set, List.length_replicate]) (fun i hi => made_set 64 k i by_ hi hk2)
    have hS : (strOfNums ((List.replicate 64 0).set k by_)).size = 64 := by rw [strOfNums_size, List.length_set, List.length_replicate]
    obtain ⟨hI, hI2⟩ := set_all 64 k by_ hk2 h3
    have hZ := made_get 64 k hk2
    rw [← hI] at hI2
    generalize strOfNums ((List.replicate 64 0).set k by_) = S2 at *
    generalize madeCells #[Value.int .u8 0] 64 = Z2 at *
    have HS := Lib.hid hS
    have HI := Lib.hid hI2
    clear hS hI hI2
    go_wp2_with fail
    refine (Of_any S2 _ (by rw [HS.out]; decide)).mono ?_
    rintro e w3 ⟨b3, h3'⟩
    replace hB := bstep b3 (balloc hB (.cells (Z2.setIfInBounds k (.int .u8 by_)) 5))
    obtain ⟨fv, hfv, rfl⟩ : ∃ fv : Int × Option Addr, ((fv.1 = 0 ∧ by_ ≤ 26) ∨ (fv.1 = 2 ∧ 26 < by_)) ∧ e = .returned (.tuple #[.pointer fv.2, .int .i64 fv.1]) := by
      have hiff : OkS S2 ↔ by_ ≤ 26 := by
        unfold OkS
        rw [HS.out, HI.out]
        exact ⟨fun h => h.2, fun h => ⟨⟨6, by omega, by omega, by decide⟩, h⟩⟩
      rcases h3' with ⟨hok, g, b, rfl, _, _⟩ | ⟨hno, rfl⟩
      · exact ⟨(0, some ⟨g, 0, none⟩), .inl ⟨rfl, hiff.1 hok⟩, rfl⟩
      · exact ⟨(2, none), .inr ⟨rfl, by rw [hiff] at hno; omega⟩, rfl⟩
    obtain ⟨fv, fa⟩ := fv
    clear h3' b3 HS HI hmk hcv hZ
    go_wp2_with fail
    obtain ⟨gr, ga, gv, hnew, hgv⟩ : ∃ (gr : World → Prop) (ga : Option Addr) (gv : Int), (Calls Tryd.prog 21 #[.int .i64 bits] w3 fun e w' => e = .returned (.tuple #[.pointer ga, .int .i64 gv]) ∧ Below w3.heap.size w3 w') ∧ ((gv = 0 ∧ 4 ≤ bits ∧ bits ≤ 10) ∨ (gv = 1 ∧ bits < 4) ∨ (gv = 1 ∧ 4 ≤ bits ∧ 10 < bits)) := by
      by_cases hb : bits < 4 ∨ 10 < bits
      · exact ⟨fun _ => True, none, 1, New_no bits w3 hb, by omega⟩
      · obtain ⟨b, rfl⟩ := Int.eq_ofNat_of_zero_le (show 0 ≤ bits by omega)
        exact ⟨fun _ => True, some ⟨w3.heap.size, 0, none⟩, 0, (New_yes b w3 (by omega)).mono (fun e w' ⟨h, _, h2⟩ => ⟨h, h2⟩), by omega⟩
    refine hnew.mono ?_
    rintro e w4 ⟨rfl, b4⟩
    replace hB := bstep b4 hB
    clear hnew b4 hn hk
    rcases hev with ⟨rfl, rfl⟩ | ⟨rfl, rfl⟩ <;> rcases hfv with ⟨rfl, hf⟩ | ⟨rfl, hf⟩ <;> rcases hgv with ⟨rfl, hg1, hg2⟩ | ⟨rfl, hg1⟩ | ⟨rfl, hg1, hg2⟩
    all_goals
      go_wp2_with fail
      go_ret
      exact ⟨by first | rfl | (exact ret_true (by simp; omega)), hB⟩
theorem hllWrong_row (many at_ by_ bits : Int) (w : World) (h1 : (Lit.int .u16 many).wf = true) (h2 : (Lit.int .u16 at_).wf = true) (h3 : (Lit.int .u8 by_).wf = true) (h4 : (Lit.int .i64 bits).wf = true) (hT : Tab w) :
    Calls Tryd.prog 6 #[.int .u16 many, .int .u16 at_, .int .u8 by_, .int .i64 bits] w fun e w' => e = .returned (.bool true) ∧ Below w.heap.size w w' :=
  wrong_walk many at_ by_ bits w hT (bounds_u16 h1) (bounds_u16 h2) (bounds_u8 h3)
end Go.Proofs.YtjliamckoggnbaaDoor

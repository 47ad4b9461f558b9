/- The walk of TopHolds. -/
import Derived.Test.YtcbheekfdhklcaaTopK
import Derived.Test.YtcbheekfdhklcaaTopL
import Derived.StillTailTactics
namespace Go.Proofs.Ytcbheekfdhklcaa
open Go.RowKit
set_option linter.unusedVariables false
set_option linter.unusedSimpArgs false

theorem addE_ok {seen : Nat} {nm : ByteArray} {n : Nat} (h1 : nm.size ≤ 64) (h2 : n ≠ 0) (h3 : n ≤ 4611686018427387904 - seen) : addE seen nm n = 0 := by
  unfold addE
  rw [if_neg (by rw [not_or]; exact ⟨by omega, h2⟩), if_neg (by omega)]
theorem Ints.b8 {w : World} {a : Option Addr} {n : Nat} {xs : List Int} (h : Ints .u8 w a n xs) : ∀ v ∈ xs, 0 ≤ v ∧ v ≤ 255 := fun v hv => bounds_u8 (h.wf v hv)
/-- A row of 26 counts. -/
def arrU (m : Nat) (R : Nat → Nat) : Array Value := ((List.range m).map fun c => Value.int .u64 (R c)).toArray
theorem arrU_get (m : Nat) (R : Nat → Nat) (c : Nat) (h : c < m) : (arrU m R)[c]? = some (.int .u64 (R c)) := by simp [arrU, h]
theorem arrU_set (m : Nat) (R R' : Nat → Nat) (c : Nat) (v : Nat) (h : ∀ d, d < m → R' d = if d = c then v else R d) : (arrU m R).setIfInBounds c (.int .u64 v) = arrU m R' := by
  apply Array.ext
  · simp [arrU]
  · intro i h1 h2
    have hi : i < m := by simpa [arrU] using h2
    rw [Array.getElem_setIfInBounds (by simpa [arrU] using hi)]
    have := h i hi
    by_cases e : c = i
    · subst e; simp [arrU, this]
    · rw [if_neg e]
      rw [if_neg (fun e2 => e e2.symm)] at this
      simp [arrU, this]

/-- A row of 26 marks. -/
def arrB (m : Nat) (f : Nat → Bool) : Array Value := ((List.range m).map fun c => Value.bool (f c)).toArray
theorem arrB_get (m : Nat) (f : Nat → Bool) (c : Nat) (h : c < m) : (arrB m f)[c]? = some (.bool (f c)) := by simp [arrB, h]
theorem arrB_set (m : Nat) (f f' : Nat → Bool) (c : Nat) (v : Bool) (h : ∀ d, d < m → f' d = if d = c then v else f d) : (arrB m f).setIfInBounds c (.bool v) = arrB m f' := by
  apply Array.ext
  · simp [arrB]
  · intro i h1 h2
    have hi : i < m := by simpa [arrB] using h2
    rw [Array.getElem_setIfInBounds (by simpa [arrB] using hi)]
    have := h i hi
    by_cases e : c = i
    · subst e; simp [arrB, this]
    · rw [if_neg e]
      rw [if_neg (fun e2 => e e2.symm)] at this
      simp [arrB, this]
def toldB (s : List It) (q c : Nat) : Bool := (s.take q).any fun x => x.name.data.toList == nml c
theorem Its.step {w w' : World} {base : Nat} {A : Option Addr} {n c : Nat} {l : List It} (h : Its w base A n c l) (hb : Below w.heap.size w w') : Its w' base A n c l :=
  ⟨h.own.kept (only_of_below hb none) (by rcases Value.ownBlock (.slice A n c) with _ | z; exact .inl rfl; exact .inr (by simp))⟩
theorem Its.alloc {w : World} {base : Nat} {A : Option Addr} {n c : Nat} {l : List It} (h : Its w base A n c l) (o : Obj) : Its (w.alloc o) base A n c l := h.step (balloc (Below.refl _ _) _)

def sumQ (s : List It) (q : Nat) : Nat := ((s.take q).map (·.many)).sum
theorem sumQ_succ (s : List It) (q : Nat) (h : q < s.length) : sumQ s (q + 1) = sumQ s q + (s.getD q default).many := by
  unfold sumQ
  rw [List.take_succ_eq_append_getElem h, it_get s q h, List.map_append, List.sum_append]
  rfl
theorem sumQ_le (s : List It) (q : Nat) : sumQ s q ≤ (s.map (·.many)).sum := by
  unfold sumQ
  have h : ((s.take q ++ s.drop q).map (·.many)).sum = (s.map (·.many)).sum := by rw [List.take_append_drop]
  rw [List.map_append, List.sum_append] at h
  omega
theorem sumQ_all (s : List It) (q : Nat) (h : s.length ≤ q) : sumQ s q = (s.map (·.many)).sum := by
  unfold sumQ
  rw [List.take_of_length_le h]
theorem nm_b (c : Nat) (hc : c < 26) (h : 0 < (nmOf c).size) : ((nmOf c)[0]'h).toNat = 97 + c := by
  have e : (nmOf c)[0]'h = UInt8.ofNat (97 + c) := rfl
  rw [e]
  simp
  omega
theorem conv1 (W : World) (b c : Nat) (B : Blk W b 5 #[.int .u8 (97 + (c : Int))]) : (convert 22 9 (.slice (some ⟨b, 0, none⟩) 1 1)).run Try.prog W = .ok (.string (nmOf c)) W := by
  have h := run_convert_bytes_arg (P := Try.prog) W 22 5 Try.underlying22 Try.underlying5 b 0 1 1 [(97 + (c : Int))] rfl (fun i hi => by
    obtain rfl : i = 0 := by omega
    exact B.cellAt 0 rfl) 9 Try.underlying9
  have e : nmOf c = strOfNums [(97 + (c : Int))] := by unfold nmOf; rw [Int.natCast_add]; rfl
  rw [e]
  exact h

set_option maxRecDepth 100000 in
set_option maxHeartbeats 4000000 in
theorem topHolds_walk (room : Int) (a : Option Addr) (n c : Nat) (xs : List Int) (w : World) (hr : 0 ≤ room ∧ room ≤ 255) (hx : Ints .u8 w a n xs) (hlc : n ≤ c) (hl : n ≤ 140737488351232) :
    Calls Try.prog 3 #[.int .u8 room, .slice a n c] w fun e w' => e = .returned (.bool true) ∧ Below w.heap.size w w' := by
  have r1 : (1 + room % 16 : Int) = ((1 + room.toNat % 16 : Nat) : Int) := by omega
  generalize hk : 1 + room.toNat % 16 = k at *
  have hk1 : 1 ≤ k ∧ k ≤ 16 := by omega
  clear hk
  go_enter Try.func3, Try.ntmps3
  go_wp2_with fail
  refine (examples_any w).mono ?_
  rintro e w1 ⟨rfl, b1⟩
  go_wp2_with fail
  refine (tm_new (W := w) (base := w.heap.size) k hk1.1 hk1.2 b1 (Nat.le_refl _)).mono ?_
  rintro e w2 ⟨rfl, T2, b2⟩
  generalize hgg : w1.heap.size = g at *
  go_wp2_with fail
  have hgl := T2.lt
  have hge := T2.ge
  have hgw := T2.bs
  generalize hgr : w2.heap.size = gr at *
  go_loopw [10, 11] (fun all i wr => ∃ j : Nat, j ≤ n ∧ j ≤ 200 ∧ all = .int .u64 (allT (xs.take j)) ∧ i = .int .i64 j ∧ TM w w.heap.size g k (allT (xs.take j)) (listT k (xs.take j)) wr ∧ Blk wr gr 29 (arrU 26 (realT (xs.take j)))) (fun _ i _ => n - (intOf i).toNat)
  case atStart => exact ⟨0, Nat.zero_le _, Nat.zero_le _, rfl, rfl, T2.alloc _, Blk.newAt hgr⟩
  case round =>
    obtain ⟨j, hjn, hj2, rfl, rfl, T, BR⟩ := hrel
    have hall : allT (xs.take j) ≤ 4 * (xs.take j).length := all_le _ (fun v hv => hx.b8 v (List.mem_of_mem_take hv))
    have hal : allT (xs.take j) ≤ 800 := by rw [List.length_take] at hall; omega
    by_cases hc : j < n ∧ j < 200
    · obtain ⟨b, off, rfl, hb, hcell⟩ := hx.at_ (by omega)
      have cb := (T.below.cell (p := ⟨b, off + j, none⟩) hb).trans (hcell j hc.1)
      have hv := hx.b8 (xs.getD j 0) (by rw [List.getD_eq_getElem?_getD, List.getElem?_eq_getElem (by rw [hx.len]; exact hc.1)]; exact List.getElem_mem _)
      have hsn := take_snoc xs j (by rw [hx.len]; exact hc.1)
      have R1 := realT_snoc (xs.take j) (xs.getD j 0)
      have A1 := allT_snoc (xs.take j) (xs.getD j 0)
      have L1 := listT_snoc k (xs.take j) (xs.getD j 0)
      rw [← hsn] at R1 A1 L1
      have HR := Lib.hid R1
      have HA := Lib.hid A1
      have HL := Lib.hid L1
      clear hsn R1 A1 L1 hcell hall
      generalize xs.getD j 0 = v at *
      have c1 : (j : Int) < n := by omega
      have c2 : (j : Int) < 200 := by omega
      have q1 : (1 + v / 64 : Int) = ((byV v : Nat) : Int) := by unfold byV; omega
      have q2 : (v % 26 : Int) = ((leV v : Nat) : Int) := by unfold leV; omega
      have q3 : v.tmod 26 = ((leV v : Nat) : Int) := by rw [Int.tmod_eq_emod_of_nonneg hv.1]; exact q2
      have hby : 1 ≤ byV v ∧ byV v ≤ 4 := by unfold byV; omega
      have hle := leV_lt v
      have hrl := real_le (xs.take j) (leV v)
      have cR := BR.cellAt (leV v) (arrU_get 26 _ _ hle)
      have fR := BR.frozen (leV v)
      have hgrl := BR.lt
      have hle2 : ((leV v : Nat) : Int) < 26 := by omega
      generalize hrv : realT (xs.take j) (leV v) = rv at *
      have HRV := Lib.hid hrv
      clear hrv
      generalize hbv : byV v = bv at *
      generalize hlv : leV v = lv at *
      have HBV := Lib.hid hbv
      have HLV := Lib.hid hlv
      clear hbv hlv
      go_wp2_with fail
      go_still_tail 15, (by kernel_rfl)
      change wpList _ _ _ _ _ wr.drew
      have T3 := T.drew
      have B3 := BR.drew
      have cR3 : wr.drew.cell? ⟨gr, lv, none⟩ = some (.int .u64 rv) := cR
      have fR3 := B3.frozen lv
      have hgr3 : gr < wr.drew.heap.size := hgrl
      have cb3 : wr.drew.cell? ⟨b, off + j, none⟩ = some (.int .u8 v) := cb
      have hb3 : b < wr.drew.heap.size := Nat.lt_of_lt_of_le hb T.below.size
      clear BR cb cR fR T hgrl
      generalize wr.drew = w3 at *
      have hrb : b ≠ gr := by omega
      have T4 := T3.set B3 (i := lv) (by omega) (by decide) (by omega) (.int .u64 ((rv + bv : Nat) : Int))
      have B4 := B3.put lv (.int .u64 ((rv + bv : Nat) : Int))
      rw [arrU_set 26 _ (realT (xs.take (j + 1))) lv (rv + bv) (by
        intro d hd
        rw [HR.out d]
        split
        · next e => rw [e, HRV.out]
        · rfl)] at B4
      have ec : ((rv + bv : Nat) : Int) = (rv : Int) + bv := Int.natCast_add _ _
      rw [ec] at T4 B4
      have hconv := conv1 ((w3.setCell ⟨gr, lv, none⟩ (.int .u64 ((rv : Int) + bv))).alloc (.cells #[.int .u8 (97 + (lv : Int))] 5)) w3.heap.size lv (Blk.newAt (t := 5) (cs := #[.int .u8 (97 + (lv : Int))]) (by simp))
      have T5 := T4.alloc (.cells #[.int .u8 (97 + (lv : Int))] 5)
      have B5 := B4.alloc (.cells #[.int .u8 (97 + (lv : Int))] 5)
      have hz : addE (allT (xs.take j)) (nmOf lv) bv = 0 := addE_ok (by rw [nmOf_size]; omega) (by omega) (by omega)
      clear T3 T4 B3 B4
      go_wp2_with (first | (go_at_call 11; refine (tm_add (nmOf lv) bv (by omega) (by rw [nmOf_size]; omega) T5).mono ?_; rintro e w5 ⟨rfl, T6, hF⟩; rw [hz]))
      have e1 : stepS (allT (xs.take j)) (nmOf lv) bv = allT (xs.take (j + 1)) := by rw [HA.out]; exact if_pos hz
      have e2 : stepT k (allT (xs.take j)) (listT k (xs.take j)) (nmOf lv) bv = listT k (xs.take (j + 1)) := by rw [HL.out]; exact if_pos hz
      rw [e1, e2] at T6
      refine ⟨⟨j + 1, by omega, by omega, ?_, by go_num, T6, hF.2 _ _ _ B5 (by omega) (by decide)⟩, by simp [intOf]; omega⟩
      rw [HA.out, Int.natCast_add]
    · have hfin : Hid (∀ s, Told (listT k (xs.take j)) s → HoldsFin k (allT (xs.take j)) (realT (xs.take j)) s) := Lib.hid (fun s h => holds_fin k hk1.1 _ h)
      have hrb : Hid (∀ c, realT (xs.take j) c ≤ 800) := Lib.hid (fun c => Nat.le_trans (real_le _ c) hal)
      have hend : (¬ (j : Int) < n) ∨ ((j : Int) < n ∧ ¬ (j : Int) < 200) := by omega
      generalize listT k (xs.take j) = L at *
      generalize allT (xs.take j) = al at *
      generalize realT (xs.take j) = R at *
      clear hall hx hc
      rcases hend with c1 | ⟨c1, c2⟩
      all_goals
        go_wp2_with fail
        refine (tm_items T).mono ?_
        rintro e w5 ⟨A', m, c', s, rfl, hT, hI, T5, hB5⟩
        have hF := Lib.hid (hfin.out s hT)
        have B5 := Blk.step hB5 BR
        have hm := hI.len
        have hm16 : m ≤ 16 := by have := hF.out.len; omega
        generalize wr.heap.size = bb at *
        clear hT T BR hfin hB5
        have hg5 := T5.lt
        have hgr5 := B5.lt
        have hw5 := T5.bs
        go_wp2_with fail
        generalize hgt : w5.heap.size = gt at *
        go_loopw [14, 16] (fun su i wr => ∃ q : Nat, q ≤ m ∧ su = .int .u64 (sumQ s q) ∧ i = .int .i64 q ∧ TM w w.heap.size g k al L wr ∧ Blk wr gr 29 (arrU 26 R) ∧ Blk wr gt 33 (arrB 26 (toldB s q)) ∧ Its wr bb A' m c' s) (fun _ i _ => m - (intOf i).toNat)
        case atStart => exact ⟨0, Nat.zero_le _, rfl, rfl, T5.alloc _, B5.alloc _, Blk.newAt hgt, hI.alloc _⟩
        case round =>
          clear T5 B5 hI
          obtain ⟨q, hqm, rfl, rfl, T, BR, BT, hI⟩ := hrel
          by_cases hq : q < m
          · obtain ⟨r, rfl, hr0, hr1, hrc, hcell⟩ := hI.row (by omega)
            obtain ⟨x0, x1, x2⟩ := hcell q hq
            have y1 : 0 < q → wr.cell? ⟨r, (q - 1) * 3 + 1, none⟩ = some (.int .u64 (s.getD (q - 1) default).many) := fun h => (hcell (q - 1) (by omega)).2.1
            obtain ⟨cc, hcc, hnm, f1, f2, f3, f4⟩ := hF.out.nm q (by omega)
            have f5 := hF.out.ord q
            rw [hnm] at x0
            have hmq : (s.getD q default).many ≤ al := by
              rw [← hF.out.sum, it_get s q (by omega)]
              exact mem_le_sum (List.getElem_mem _)
            clear hcell
            have hsq := sumQ_succ s q (by omega)
            have hsle := sumQ_le s (q + 1)
            rw [hF.out.sum, hsq] at hsle
            have HSQ := Lib.hid hsq
            clear hsq
            generalize sumQ s q = sq at *
            generalize (s.getD q default).many = xm at *
            generalize (s.getD q default).over = xo at *
            have cR := BR.cellAt cc (arrU_get 26 _ _ hcc)
            have fT := BT.frozen cc
            have cT := BT.cellAt cc (arrB_get 26 _ _ hcc)
            have hq1 : (q : Int) < m := by omega
            have hsz : (nmOf cc).size = 1 := nmOf_size cc
            have hb0 : ∀ h, ((nmOf cc)[0]'h).toNat = 97 + cc := fun h => nm_b cc hcc h
            go_upto_region 25 with fail
            have T6 := T.alloc (.cells #[.string (nmOf cc), .int .u64 xm, .int .u64 xo] 35)
            have R6 := BR.alloc (.cells #[.string (nmOf cc), .int .u64 xm, .int .u64 xo] 35)
            have K6 := BT.alloc (.cells #[.string (nmOf cc), .int .u64 xm, .int .u64 xo] 35)
            have I6 := hI.alloc (.cells #[.string (nmOf cc), .int .u64 xm, .int .u64 xo] 35)
            have X6 := Blk.new wr 35 #[.string (nmOf cc), .int .u64 xm, .int .u64 xo]
            have y6 : 0 < q → (wr.alloc (.cells #[.string (nmOf cc), .int .u64 xm, .int .u64 xo] 35)).cell? ⟨r, (q - 1) * 3 + 1, none⟩ = some (.int .u64 (s.getD (q - 1) default).many) := fun h => ((balloc (Below.refl wr.heap.size wr) _).cell hr1).trans (y1 h)
            generalize (wr.alloc (.cells #[.string (nmOf cc), .int .u64 xm, .int .u64 xo] 35)) = w6 at *
            generalize wr.heap.size = xb at *
            have k0 : w6.cell? ⟨xb, 0, none⟩ = some (.string (nmOf cc)) := X6.cellAt 0 rfl
            have k1 : w6.cell? ⟨xb, 1, none⟩ = some (.int .u64 xm) := X6.cellAt 1 rfl
            have k2 : w6.cell? ⟨xb, 2, none⟩ = some (.int .u64 xo) := X6.cellAt 2 rfl
            clear T BR BT hI x0 x1 x2 y1 cR fT cT
            have cR := R6.cellAt cc (arrU_get 26 _ _ hcc)
            have fT := K6.frozen cc
            have cT := K6.cellAt cc (arrB_get 26 _ _ hcc)
            have l1 := X6.lt
            have l2 := R6.lt
            have l3 := K6.lt
            have hgtw : w.heap.size ≤ gt := by omega
            go_upto_region 29 with fail
            have n1 := K6.ne_ X6 (by decide)
            have n2 := K6.ne_ R6 (by decide)
            have n3 : gt ≠ g := by omega
            have hfar := I6.far K6 (by decide)
            have T7 := T6.set K6 (i := cc) n3 (by decide) hgtw (.bool true)
            have R7 := R6.far (p := ⟨gt, cc, none⟩) (fun e => n2 e.symm) (.bool true)
            have X7 := X6.far (p := ⟨gt, cc, none⟩) (fun e => n1 e.symm) (.bool true)
            have I7 : Its (w6.setCell ⟨gt, cc, none⟩ (.bool true)) bb (some ⟨r, 0, none⟩) m c' s := ⟨I6.own.kept (only_setCell (p := ⟨gt, cc, none⟩) (only_refl _ _) (.inl rfl) _) (.inr (fun e => hfar e.symm))⟩
            have K7 := K6.put cc (.bool true)
            have hnq : (s.getD q default).name.data.toList = nml cc := by rw [hnm]; rfl
            have hK : ∀ d, d < 26 → toldB s (q + 1) d = if d = cc then true else toldB s q d := by
              intro d hd
              unfold toldB
              rw [List.take_succ_eq_append_getElem (by omega), List.any_append]
              rw [it_get s q (by omega)] at hnq
              by_cases e : d = cc
              · subst e; simp [hnq]
              · have : ¬ nml cc = nml d := fun h => e (nm_inj hcc hd h).symm
                simp [hnq, e, this]
            rw [arrB_set 26 _ (toldB s (q + 1)) cc true hK] at K7
            have y7 : 0 < q → (w6.setCell ⟨gt, cc, none⟩ (.bool true)).cell? ⟨r, (q - 1) * 3 + 1, none⟩ = some (.int .u64 (s.getD (q - 1) default).many) := by
              intro h
              obtain ⟨r', hr', _, _, _, hcell'⟩ := I7.row (by omega)
              cases hr'
              exact (hcell' (q - 1) (by omega)).2.1
            generalize (w6.setCell ⟨gt, cc, none⟩ (.bool true)) = w7 at *
            have k0 : w7.cell? ⟨xb, 0, none⟩ = some (.string (nmOf cc)) := X7.cellAt 0 rfl
            have k1 : w7.cell? ⟨xb, 1, none⟩ = some (.int .u64 xm) := X7.cellAt 1 rfl
            have k2 : w7.cell? ⟨xb, 2, none⟩ = some (.int .u64 xo) := X7.cellAt 2 rfl
            clear T6 R6 X6 I6 K6 cR fT cT y6 hfar
            have HK := Lib.hid hK
            clear hK hnq
            have w1 : IntKind.u64.wrap ((sq : Int) + xm) = ((sq + xm : Nat) : Int) := by simp [IntKind.wrap, IntKind.bits, IntKind.signed]; omega
            have w2 : IntKind.u64.wrap ((xm : Int) - xo) = (xm : Int) - xo := by simp [IntKind.wrap, IntKind.bits, IntKind.signed]; omega
            generalize R cc = rc at *
            have d1 : (al : Int) / (k : Int) = ((al / k : Nat) : Int) := (Int.natCast_ediv al k).symm
            have d2 : (al : Int).tdiv (k : Int) = ((al / k : Nat) : Int) := by rw [Int.tdiv_eq_ediv_of_nonneg (by omega)]; exact d1
            have k1' : ¬ (k : Int) = 0 := by omega
            have k2' : ¬ k = 0 := by omega
            have kw : IntKind.u64.wrap (k : Int) = (k : Int) := by simp [IntKind.wrap, IntKind.bits, IntKind.signed]; omega
            have hak : al / k ≤ al := Nat.div_le_self _ _
            generalize al / k = ak at *
            have aw : IntKind.u64.wrap (ak : Int) = (ak : Int) := by simp [IntKind.wrap, IntKind.bits, IntKind.signed]; omega
            have g1 : ¬ (xm : Int) < rc := by omega
            have g2 : ¬ (rc : Int) < (xm : Int) - xo := by omega
            have g3 : ¬ (ak : Int) < xo := by omega
            go_upto_region 30 with fail
            by_cases hq0 : q = 0
            · have g4 : ¬ (0 : Int) < q := by omega
              go_quiet (fail)
              have T8 := T7.step (bdrewN (Below.refl _ _) nq)
              have R8 := R7.drewN nq
              have K8 := K7.drewN nq
              have I8 := I7.step (bdrewN (Below.refl _ _) nq)
              generalize w7.drewN nq = w8 at *
              clear T7 R7 K7 I7
              go_wp2_with fail
              refine ⟨⟨q + 1, by omega, ?_, by go_num, T8, R8, K8, I8⟩, by simp [intOf]; omega⟩
              rw [HSQ.out, Int.natCast_add]
            · obtain ⟨p, hp⟩ : ∃ p, q = p + 1 := ⟨q - 1, by omega⟩
              have y8 := y7 (by omega)
              have g5 := f5 (by omega) (by omega)
              have hp1 : q - 1 = p := by omega
              rw [hp1] at y8 g5
              generalize (s.getD p default).many = xp at *
              have g4 : (0 : Int) < q := by omega
              have g4' : 0 < q := by omega
              have g6 : ¬ (xp : Int) < xm := by omega
              have g9 : (q : Int) - 1 = (p : Int) := by omega
              have g7 : IntKind.i64.wrap (p : Int) = (p : Int) := by rw [IntKind.wrap_i64]; omega
              have g8 : (p : Int) < m := by omega
              have HP := Lib.hid hp
              clear hp hp1
              go_quiet (fail)
              have T8 := T7.step (bdrewN (Below.refl _ _) nq)
              have R8 := R7.drewN nq
              have K8 := K7.drewN nq
              have I8 := I7.step (bdrewN (Below.refl _ _) nq)
              generalize w7.drewN nq = w8 at *
              clear T7 R7 K7 I7
              go_wp2_with fail
              refine ⟨⟨q + 1, by omega, ?_, by go_num, T8, R8, K8, I8⟩, by simp [intOf]; omega⟩
              rw [HSQ.out, Int.natCast_add]
          · have hqe : q = m := by omega
            subst hqe
            have hs1 := sumQ_all s q (by omega)
            rw [hF.out.sum] at hs1
            rw [hs1]
            have hlen := hF.out.len
            have hRa : Hid (∀ d, d < 26 → (al / k < R d → toldB s q d = true)) := Lib.hid (fun d hd hlt => by
              obtain ⟨i, hi, e⟩ := hF.out.told d hd hlt
              unfold toldB
              rw [List.take_of_length_le (by omega), List.any_eq_true]
              rw [it_get s i hi] at e
              exact ⟨s[i], List.getElem_mem hi, by rw [e, nmOf_list]; simp⟩)
            have d1 : (al : Int) / (k : Int) = ((al / k : Nat) : Int) := (Int.natCast_ediv al k).symm
            have d2 : (al : Int).tdiv (k : Int) = ((al / k : Nat) : Int) := by rw [Int.tdiv_eq_ediv_of_nonneg (by omega)]; exact d1
            have k1' : ¬ (k : Int) = 0 := by omega
            have k2' : ¬ k = 0 := by omega
            have kw : IntKind.u64.wrap (k : Int) = (k : Int) := by simp [IntKind.wrap, IntKind.bits, IntKind.signed]; omega
            have hak : al / k ≤ al := Nat.div_le_self _ _
            generalize al / k = ak at *
            have aw : IntKind.u64.wrap (ak : Int) = (ak : Int) := by simp [IntKind.wrap, IntKind.bits, IntKind.signed]; omega
            have hq1 : ¬ (q : Int) < q := by omega
            clear hs1 hI
            generalize hTB : toldB s q = tb at *
            clear hTB
            go_wp2_with fail
            go_loopw [19] (fun i w8 => ∃ d : Nat, d ≤ 26 ∧ i = .int .i64 d ∧ TM w w.heap.size g k al L w8 ∧ Blk w8 gr 29 (arrU 26 R) ∧ Blk w8 gt 33 (arrB 26 tb)) (fun i _ => 26 - (intOf i).toNat)
            case atStart => exact ⟨0, Nat.zero_le _, rfl, T, BR, BT⟩
            case round =>
              clear T BR BT
              rename_i w8 _
              obtain ⟨d, hd, rfl, T, BR, BT⟩ := hrel
              by_cases hd2 : d < 26
              · have cR := BR.cellAt d (arrU_get 26 _ _ hd2)
                have cT := BT.cellAt d (arrB_get 26 _ _ hd2)
                have hh := hRa.out d hd2
                generalize R d = rd at *
                generalize tb d = td at *
                have v1 : (d : Int) < 26 := by omega
                have b1 := BR.lt
                have b2 := BT.lt
                go_upto_region 35 with fail
                by_cases hlt : ak < rd
                · have ht := hh hlt
                  subst ht
                  have v2 : (ak : Int) < rd := by omega
                  clear hh
                  go_quiet (fail)
                  have T8 := T.step (bdrewN (Below.refl _ _) nq)
                  have R8 := BR.drewN nq
                  have K8 := BT.drewN nq
                  go_wp2_with fail
                  exact ⟨⟨d + 1, by omega, by go_num, T8, R8, K8⟩, by simp [intOf]; omega⟩
                · have v2 : ¬ (ak : Int) < rd := by omega
                  clear hh
                  go_quiet (fail)
                  have T8 := T.step (bdrewN (Below.refl _ _) nq)
                  have R8 := BR.drewN nq
                  have K8 := BT.drewN nq
                  go_wp2_with fail
                  exact ⟨⟨d + 1, by omega, by go_num, T8, R8, K8⟩, by simp [intOf]; omega⟩
              · have v1 : ¬ (d : Int) < 26 := by omega
                have v3 : ((q : Nat) : Int) ≤ k := by omega
                go_wp2_with (first | (go_at_call 13; refine (tm_seen T).mono ?_; rintro e w9 ⟨rfl, rfl⟩))
                go_ret
                exact ⟨by simp, T.below⟩
end Go.Proofs.Ytcbheekfdhklcaa

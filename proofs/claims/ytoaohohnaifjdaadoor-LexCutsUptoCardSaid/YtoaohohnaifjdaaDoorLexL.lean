/- Lines. -/
import Derived.Test.YtoaohohnaifjdaaDoorLexS
import Derived.Deep.Onto
namespace Go.Proofs.YtoaohohnaifjdaaDoor
open Go.RowKit Go.Shelf
set_option linter.unusedVariables false
set_option linter.unusedSimpArgs false
attribute [local go_sem] Oper.semAt_some

def strs (ls : List (List UInt8)) : List Value := ls.map fun l => .string ⟨l.toArray⟩
theorem strs_len (ls : List (List UInt8)) : (strs ls).length = ls.length := by simp [strs]
theorem strs_app (a b : List (List UInt8)) : strs (a ++ b) = strs a ++ strs b := by simp [strs]
theorem trim_eq (l : List UInt8) : Lib.trimSuffix l [13] = trimCR l := by
  unfold Lib.trimSuffix trimCR Lib.hasSuffix
  by_cases h : l.getLast? = some 13
  · rw [if_pos h]
    have hs : [13].isSuffixOf l = true := by
      rw [List.isSuffixOf_iff_suffix]
      obtain ⟨ys, rfl⟩ := List.getLast?_eq_some_iff.1 h
      exact ⟨ys, rfl⟩
    rw [if_pos hs, List.dropLast_eq_take]
    rfl
  · rw [if_neg h]
    have hs : ¬ [13].isSuffixOf l = true := fun hs => by
      rw [List.isSuffixOf_iff_suffix] at hs
      obtain ⟨ys, rfl⟩ := hs
      exact h (by simp)
    rw [if_neg hs]
theorem prefix_eq (l : List UInt8) : Lib.hasPrefix l [35] = (l.head? == some 35) := by
  unfold Lib.hasPrefix
  cases l with
  | nil => rfl
  | cons b t =>
    rw [Bool.eq_iff_iff]
    simp
    exact eq_comm
theorem trimCR_len (l : List UInt8) : (trimCR l).length ≤ l.length := by
  unfold trimCR
  split
  · simp
  · exact Nat.le_refl _
/-- The lines that are kept of what has come. -/
def kept (pre : List Sm) : List (List UInt8) := linesOf (pre.map (·.1.data.toList))
theorem kept_len (pre : List Sm) : (kept pre).length ≤ pre.length := by
  unfold kept linesOf
  have := List.length_filter_le keepL ((pre.map (·.1.data.toList)).map trimCR)
  simpa using this
theorem kept_hit (pre : List Sm) (x : Sm) (h : keepL (trimCR x.1.data.toList) = true) : kept (pre ++ [x]) = kept pre ++ [trimCR x.1.data.toList] := by
  unfold kept
  rw [List.map_append, linesOf_append, List.map_cons, List.map_nil, linesOf_one, if_pos h]
theorem kept_miss (pre : List Sm) (x : Sm) (h : keepL (trimCR x.1.data.toList) = false) : kept (pre ++ [x]) = kept pre := by
  unfold kept
  rw [List.map_append, linesOf_append, List.map_cons, List.map_nil, linesOf_one, h]
  simp
theorem kept_all {s : ByteArray} {xs : List Sm} (h : piecesB s xs) : kept xs = linesL s.data.toList := by
  unfold kept linesL
  rw [h]

theorem info_str : (Tryd.prog.info? 9).map (fun i => (i.zero, i.size, i.bytes)) = some (some (.string ⟨#[]⟩), 1, 16) := by kernel_rfl
theorem grown_step {W w1 : World} {tmp : Obj} {B3 Bo : Nat} {v v' : Value} {k : Nat} {xs : List Value} {e : TypeId} (hrow : W.ownsRow B3 e 1 v k xs) (hB3 : B3 ≤ W.heap.size) (hgrow : (W.alloc tmp).grownBy w1 v.ownBlock) :
    ∀ r, r < B3 → r ≠ Bo → (w1.setCell ⟨Bo, 0, none⟩ v').heap[r]? = W.heap[r]? := by
  intro r hr hne
  refine (Below.heap_setCell w1 _ _ r hne).trans ?_
  refine (hgrow.block r (by simp; omega) (fun h => ?_)).trans (Below.heap_alloc W tmp r (by omega))
  have := (hrow.lt r h.symm).1
  omega

set_option maxRecDepth 100000 in
set_option maxHeartbeats 2000000 in
theorem lines_call (s : ByteArray) (w : World) (hs : s.size ≤ 8796093022206) : Calls Tryd.prog 14 #[.string s] w fun e w' => ∃ A n c, e = .returned (.slice A n c) ∧ w'.ownsRow w.heap.size 9 1 (.slice A n c) n (strs (linesL s.data.toList)) ∧ Below w.heap.size w w' := by
  obtain ⟨i0, hi0, hz0, hz1, hz2⟩ := info_parts info_str
  refine (callsIn_wide (n := 6)).1 ?_
  refine callsIn_of_wp_marks Tryd.func14 rfl trivial ?_ rfl
  refine wpIn_wide.2 ?_
  simp only [Tryd.ntmps14, List.size_toArray, List.length_cons, List.length_nil, Nat.reduceAdd, Nat.reduceSub, Array.replicate_succ, Array.replicate_zero, List.push_toArray, List.append_toArray, List.nil_append, List.cons_append]
  go_wp2_with fail
  go_step3
  go_wp2_with fail
  go_step3
  go_wp2_with (go_at_call 26; refine (splitSeq_call s _).mono ?_; rintro e w' ⟨rfl, rfl⟩)
  obtain ⟨w0, hw0⟩ : ∃ w0, w.alloc (.cells #[.slice none 0 0] 31) = w0 := ⟨_, rfl⟩
  have bO : Boxed w0 w.heap.size 31 (.slice none 0 0) := by rw [← hw0]; exact Boxed.new w _ _
  have hz0' : w0.heap.size = w.heap.size + 1 := by rw [← hw0]; simp
  have hB0 : Below w.heap.size w w0 := by rw [← hw0]; exact (Below.refl _ w).alloc (Nat.le_refl _) _
  rw [hw0]
  clear hw0
  obtain ⟨w3, hw3⟩ : ∃ w3, seqW s w0 = w3 := ⟨_, rfl⟩
  have x0 : Boxed w3 w0.heap.size 9 (.string s) := by
    rw [← hw3]; exact ((Boxed.new w0 _ _).alloc _).alloc _
  have x1 : Boxed w3 (w0.heap.size + 1) 9 (.string ⟨#[10]⟩) := by
    rw [← hw3]
    have := (Boxed.new (w0.alloc (.cells #[.string s] 9)) 9 (.string ⟨#[10]⟩)).alloc (.cells #[.int .i64 0] 3)
    rwa [World.size_alloc] at this
  have x2 : Boxed w3 (w0.heap.size + 2) 3 (.int .i64 0) := by
    rw [← hw3]
    have := Boxed.new ((w0.alloc (.cells #[.string s] 9)).alloc (.cells #[.string ⟨#[10]⟩] 9)) 3 (.int .i64 0)
    rwa [World.size_alloc, World.size_alloc] at this
  have bO3 : Boxed w3 w.heap.size 31 (.slice none 0 0) := by rw [← hw3]; exact ((bO.alloc _).alloc _).alloc _
  have hz3 : w3.heap.size = w0.heap.size + 3 := by rw [← hw3]; simp [seqW]
  have hB3 : Below w.heap.size w w3 := by
    rw [← hw3]
    exact ((hB0.alloc (by omega) _).alloc (by simp; omega) _).alloc (by simp; omega) _
  rw [hw3]
  clear hw3 bO hB0
  rw [hz0'] at x0 x1 x2 hz3
  obtain ⟨b, hb⟩ : ∃ b, w.heap.size + 1 = b := ⟨_, rfl⟩
  rw [hb] at x0 x1 x2 hz3 ⊢
  have hbw : w.heap.size < b := by omega
  clear hz0' hb
  refine (wpIn_wide (n := 6)).1 ?_
  refine wpIn_rangeFunc_cells (n := 6) rfl (by omega) (gf := 36) (lb := #[.pointer (some ⟨b + 1, 0, none⟩), .pointer (some ⟨b, 0, none⟩), .pointer (some ⟨b + 2, 0, none⟩)]) rfl trivial (enters_of Tryd.func36 (by kernel_rfl) rfl)
    (own := ownB b) (fun r hr => by rcases hr with rfl | rfl | rfl <;> omega) (iter_seq 5 b (by omega) s (by omega) w3 x0 x1 x2)
    (fun h k r hr => (k r hr).trans (h r hr))
    (fun W l o o' hl _ _ _ r hr => World.putObj_heap_other (by rcases hr with rfl | rfl | rfl <;> omega))
    (fun _ => rfl)
    (fun pre W => (∃ v, Boxed W w.heap.size 31 v ∧ W.ownsRow w3.heap.size 9 1 v (kept pre).length (strs (kept pre))) ∧ Below w.heap.size w W ∧ w3.heap.size ≤ W.heap.size)
    ?own
    ⟨⟨_, bO3, World.ownsRow_nil _ _ _ _⟩, hB3, Nat.le_refl _⟩
    (fun x => { tmps := #[.string s, undef, .slice none 0 0, .pointer (some ⟨w.heap.size, 0, none⟩), .string x.1, .string s, .func (.func 36) #[] #[.pointer (some ⟨b + 1, 0, none⟩), .pointer (some ⟨b, 0, none⟩), .pointer (some ⟨b + 2, 0, none⟩)], .string x.1, undef, undef, undef, undef, undef, undef, undef, undef, undef, undef, undef, undef, undef], defers := [] }) ?assign ?body ?done
  case own =>
    rintro pre W C row ⟨⟨v, hv, hrow⟩, hB, hsz⟩ hg hr
    refine ⟨⟨v, hv.kept hg (fun e => ?_), hrow.kept hg ?_⟩, hB.grown hg hB.size (fun k e => ?_), Nat.le_trans hsz hg.size⟩
    · rcases hr _ e.symm with ⟨h, _⟩ | h
      · omega
      · rcases h with h | h | h <;> omega
    · rcases hrow.2 with ⟨rfl, _⟩ | ⟨g, cap, cur, rfl, hgb, hgg, _⟩
      · exact .inl rfl
      · refine .inr fun e => ?_
        rcases hr g (by simpa [Value.ownBlock] using e.symm) with ⟨_, o, ho, hc⟩ | h
        · rw [hgg] at ho; cases ho; cases hc
        · rcases h with h | h | h <;> omega
    · rcases hr _ e with ⟨h, _⟩ | h
      · omega
      · rcases h with h | h | h <;> omega
  case assign =>
    intro l x W K hK
    gi_wp2
    exact hK
  case body =>
    rintro l pre x W ⟨⟨v, hv, hrow⟩, hB, hsz⟩ hlt
    have hn4 : 1 ≤ 6 - 1 - 1 := by omega
    have hc := hv.cell
    have hpl := kept_len pre
    have HT : Hid (∀ W, Calls Tryd.prog 27 #[.string x.1, .string ⟨#[13]⟩] W fun e w' => e = .returned (.string ⟨(trimCR x.1.data.toList).toArray⟩) ∧ W = w') := Lib.hid (fun W => by
      refine (Tryd.strings_TrimSuffix x.1 ⟨#[13]⟩ W ?_).mono ?_
      · exact x.2
      · rintro e w' ⟨rfl, h⟩
        have e1 : Lib.trimSuffix x.1.data.toList (⟨#[13]⟩ : ByteArray).data.toList = trimCR x.1.data.toList := trim_eq _
        exact ⟨by rw [e1], h.symm⟩)
    have hmiss : Hid (keepL (trimCR x.1.data.toList) = false → kept (pre ++ [x]) = kept pre) := Lib.hid (kept_miss pre x)
    have hhit : Hid (keepL (trimCR x.1.data.toList) = true → kept (pre ++ [x]) = kept pre ++ [trimCR x.1.data.toList]) := Lib.hid (kept_hit pre x)
    obtain ⟨L, hL⟩ : ∃ L, trimCR x.1.data.toList = L := ⟨_, rfl⟩
    rw [hL] at HT hmiss hhit
    have HP : Hid (∀ W, Calls Tryd.prog 28 #[.string ⟨L.toArray⟩, .string ⟨#[35]⟩] W fun e w' => e = .returned (.bool (L.head? == some 35)) ∧ W = w') := Lib.hid (fun W => by
      refine (Tryd.strings_HasPrefix ⟨L.toArray⟩ ⟨#[35]⟩ W).mono ?_
      rintro e w' ⟨rfl, h⟩
      have e1 : Lib.hasPrefix (⟨L.toArray⟩ : ByteArray).data.toList (⟨#[35]⟩ : ByteArray).data.toList = (L.head? == some 35) := by
        have := prefix_eq L
        simpa using this
      exact ⟨by rw [e1], h.symm⟩)
    clear hL
    cases L with
    | nil =>
      have hk := Lib.hid (hmiss.out rfl)
      gi_wp2_with (first
        | (refine ⟨trivial, ?_⟩; gi_at_call 27; refine (CallsIn.inRound l (callsIn_wide.2 (HT.out _))).mono ?_; rintro e w' ⟨rfl, rfl⟩))
      refine ⟨trivial, ?_⟩
      gi_wp2
      exact ⟨KeepsOthers.refl _, fun _ _ => rfl, ⟨v, hv, by rw [hk.out]; exact hrow⟩, hB, hsz⟩
    | cons b0 L0 =>
      obtain ⟨y, hy⟩ : ∃ y : ByteArray, (⟨(b0 :: L0).toArray⟩ : ByteArray) = y := ⟨_, rfl⟩
      have y1 : y.toList.isEmpty = false := by rw [← hy, Lib.toList_data]; rfl
      have y2 : ¬ y.toList = [] := by rw [← hy, Lib.toList_data]; simp
      have hkeep : Hid (∀ h : Bool, ((b0 :: L0).head? == some 35) = h → keepL (b0 :: L0) = !h) := Lib.hid (fun h e => by unfold keepL; rw [e]; rfl)
      have HYE := Lib.hid hy
      rw [hy] at HT HP
      cases hh : ((b0 :: L0).head? == some 35)
      · rw [hh] at HP
        have hk := Lib.hid (hhit.out (by rw [hkeep.out false hh]; rfl))
        clear hh hy
        gi_wp2_with (first
          | (refine ⟨trivial, ?_⟩; gi_at_call 27; refine (CallsIn.inRound l (callsIn_wide.2 (HT.out _))).mono ?_; rintro e w' ⟨rfl, rfl⟩)
          | (refine ⟨trivial, ?_⟩; gi_at_call 28; refine (CallsIn.inRound l (callsIn_wide.2 (HP.out _))).mono ?_; rintro e w' ⟨rfl, rfl⟩)
          | (gi_at_builtin; refine wpListIn_append_own _ rfl _ _ 31 rfl w3.heap.size 9 i0 (.string ⟨#[]⟩) 1 16 Tryd.underlying31 hi0 hz0 hz1 hz2 rfl (by decide) _ _ _ rfl (hrow.alloc _) ⟨W.heap.size, 0, none⟩ 1 1 [.string y] rfl rfl (cell_one_new _ _ _) (by simp [Value.oneCell']) (by simp only [maxLen]; omega) (by omega) (by simp; omega) ?_; intro v' w1 hown' hgrow _; obtain ⟨g', cap', rfl⟩ := ownsRow_succ hown'; have hv1 := (hv.alloc (.cells #[.string y] 9)).kept hgrow (hv.not_row (by decide) hrow); have hc1 := hv1.cell; have hf1 := hv1.frozen))
        have h03 : w.heap.size ≤ w3.heap.size := by omega
        obtain ⟨_, hv2, _, hk2, hb2⟩ := hv.appended (by decide) (hrow.mono h03) hB.size (Nat.le_refl _) (hown'.mono h03) hgrow
        have hrow2 := hown'.kept (grownBy_setCell' w1 w.heap.size (.slice (some ⟨g', 0, none⟩) ((kept pre).length + 1) cap')) (.inr (hv1.not_row (by decide) hown').symm)
        refine ⟨hk2, fun r hr => grown_step hrow hsz hgrow r (by rcases hr with rfl | rfl | rfl <;> omega) (by rcases hr with rfl | rfl | rfl <;> omega), ⟨_, hv2, ?_⟩, hB.trans hb2, Nat.le_trans hsz hb2.size⟩
        rw [hk.out, strs_app]
        have e1 : strs [b0 :: L0] = [Value.string y] := by rw [← HYE.out]; rfl
        have e2 : (kept pre ++ [b0 :: L0]).length = (kept pre).length + 1 := by simp
        rw [e1, e2]
        exact hrow2
      · rw [hh] at HP
        have hk := Lib.hid (hmiss.out (by rw [hkeep.out true hh]; rfl))
        clear hh hy
        gi_wp2_with (first
          | (refine ⟨trivial, ?_⟩; gi_at_call 27; refine (CallsIn.inRound l (callsIn_wide.2 (HT.out _))).mono ?_; rintro e w' ⟨rfl, rfl⟩)
          | (refine ⟨trivial, ?_⟩; gi_at_call 28; refine (CallsIn.inRound l (callsIn_wide.2 (HP.out _))).mono ?_; rintro e w' ⟨rfl, rfl⟩))
        exact ⟨KeepsOthers.refl _, fun _ _ => rfl, ⟨v, hv, by rw [hk.out]; exact hrow⟩, hB, hsz⟩
  case done =>
    rintro D xs W hD hS ⟨⟨v, hv, hrow⟩, hB, hsz⟩ hK
    have hc := hv.cell
    go_wp2_with fail
    rw [Exit.noGoto_ret]
    refine ⟨by simp, .inl ⟨_, _, rfl, run_takeDeferred hK, ?_⟩⟩
    rw [kept_all hS] at hrow
    have hr2 := World.ownsRow.mono (ownsRow_putObj hrow (.deferred none) hK rfl) (show w.heap.size ≤ w3.heap.size by omega)
    have hBf : Below w.heap.size w (W.putObj D (.deferred none)) := hB.trans (belowK_b (w := w) (Nat.le_refl _) W D _ _ (by omega) hK rfl rfl)
    obtain ⟨A, c, rfl⟩ : ∃ A c, v = .slice A (linesL s.data.toList).length c := by
      rcases hrow.2 with ⟨rfl, h0⟩ | ⟨g, cap, _, rfl, _⟩
      · exact ⟨none, 0, by rw [h0]⟩
      · exact ⟨_, _, rfl⟩
    exact ⟨_, results_tmp rfl _ _ _, A, _, c, rfl, hr2, hBf⟩
end Go.Proofs.YtoaohohnaifjdaaDoor

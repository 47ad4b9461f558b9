/- The reference's Items. -/
import Derived.Test.YtcbheekfdhklcaaTopI1
import Derived.Test.YtcbheekfdhklcaaTopI
namespace Go.Proofs.Ytcbheekfdhklcaa
open Go.RowKit
set_option linter.unusedVariables false
set_option linter.unusedSimpArgs false

set_option maxRecDepth 100000 in
set_option maxHeartbeats 4000000 in
theorem ritems_call {base g room seen : Nat} {A : Option Addr} {n c : Nat} {l : List It} {w : World} (T : Rp w base g room seen A n c l) :
    Calls Try.prog 19 #[.pointer (some ⟨g, 0, none⟩)] w fun e w' => ∃ A' c' s, e = .returned (.slice A' n c') ∧ Told l s ∧ RIts w' w.heap.size A' n c' s ∧ Below w.heap.size w w' := by
  have c0 : w.cell? ⟨g, 0, none⟩ = some (.slice A n c) := T.blk.cellAt 0 rfl
  have hlt := T.blk.lt
  have hln := T.its.len
  have hn16 : n ≤ 16 := by have := T.ln; have := T.rm; omega
  have HIT := Lib.hid T.its
  obtain ⟨i0, hi0, hz0, hz1, hz2⟩ := info_parts info_ritem
  clear T
  go_enter Try.func19, Try.ntmps19
  go_wp2_with fail
  go_loopw [3, 4] (fun out i wr => ∃ (j : Nat) (A' : Option Addr) (c' : Nat) (s : List It), j ≤ n ∧ i = .int .i64 j ∧ out = .slice A' j c' ∧ (j = 0 → A' = none ∧ c' = 0) ∧ Hid (Told (l.take j) s) ∧ RIts wr w.heap.size A' j c' s ∧ Below w.heap.size w wr) (fun _ i _ => n - (intOf i).toNat)
  case atStart => exact ⟨0, none, 0, [], Nat.zero_le _, rfl, rfl, fun _ => ⟨rfl, rfl⟩, Lib.hid Told.nil, RIts.nil, Below.refl _ _⟩
  case round =>
    obtain ⟨j, A', c', s, hj, rfl, rfl, hnil, HTD, hI, hB⟩ := hrel
    generalize hwo : wr = wo at *
    clear hwo
    have cg := (hB.cell (p := ⟨g, 0, none⟩) hlt).trans c0
    have hg2 : g < wo.heap.size := Nat.lt_of_lt_of_le hlt hB.size
    by_cases hjn : j < n
    · obtain ⟨r, rfl, hr0, hr1, hrc, hcell⟩ := HIT.out.row (by omega)
      obtain ⟨x0, x1, x2⟩ := hcell j hjn
      have e0 := (hB.cell (p := ⟨r, j * 3, none⟩) hr1).trans x0
      have e1 := (hB.cell (p := ⟨r, j * 3 + 1, none⟩) hr1).trans x1
      have e2 := (hB.cell (p := ⟨r, j * 3 + 2, none⟩) hr1).trans x2
      have hr2 : r < wo.heap.size := Nat.lt_of_lt_of_le hr1 hB.size
      have HTS := Lib.hid (take_snocI l j (by omega))
      clear hcell x0 x1 x2
      generalize l.getD j default = X at *
      have hj1 : (j : Int) < n := by omega
      have hsl := hI.len
      by_cases hj0 : j = 0
      · subst hj0
        obtain ⟨rfl, rfl⟩ := hnil rfl
        have hs0 : s = [] := List.eq_nil_of_length_eq_zero hsl
        subst hs0
        clear hnil hsl
        go_wp2_with fail
        go_loopw [5] (fun at_ w6 => at_ = .int .i64 0 ∧ w6 = wo) (fun at_ _ => 0)
        case atStart => exact ⟨rfl, rfl⟩
        case round =>
          obtain ⟨rfl, rfl⟩ := hrel
          go_upto_region 6 with fail
          go_quiet (fail)
          have hb8 : Below wr.heap.size wr (wr.drewN nq) := bdrewN (Below.refl _ _) nq
          have x0 := (hb8.cell (p := ⟨r, 0 * 3, none⟩) hr2).trans e0
          have x1 := (hb8.cell (p := ⟨r, 0 * 3 + 1, none⟩) hr2).trans e1
          have x2 := (hb8.cell (p := ⟨r, 0 * 3 + 2, none⟩) hr2).trans e2
          have cg8 := (hb8.cell (p := ⟨g, 0, none⟩) hg2).trans cg
          have lg8 : g < (wr.drewN nq).heap.size := hg2
          have lr8 : r < (wr.drewN nq).heap.size := hr2
          have hw8 : w.heap.size ≤ (wr.drewN nq).heap.size := hB.size
          have hbb := bdrewN hB nq
          clear hb8 e0 e1 e2 cg
          generalize wr.drewN nq = w8 at *
          go_upto_region 10 with (at_builtin; refine wpList_app0 rfl _ _ 48 rfl 52 i0 Try.underlying48 hi0 w.heap.size 3 none 0 0 [] (World.ownsRow_nil _ _ _ 3) rfl 0 rfl ?_)
          go_upto_region 11 with (at_builtin; refine wpList_append_own_at _ rfl _ _ 48 rfl w.heap.size 52 i0 _ 3 32 Try.underlying48 hi0 hz0 hz1 hz2 rfl (by omega) (.slice none 0 0) 0 [] rfl (World.ownsRow_nil _ _ _ 3) ⟨w8.heap.size, 0, none⟩ 1 1 (encI X) rfl rfl (news_item (Blk.new w8 _ _)) (by intro u hu; simp only [encI, List.mem_cons, List.not_mem_nil, or_false] at hu; rcases hu with rfl | rfl | rfl <;> rfl) (by simp only [maxLen]; omega) (by omega) (by simp; omega) ?_; intro v' w10 hown10 hG10 hnil10 hat10; rw [Nat.zero_add, List.nil_append] at hown10; obtain ⟨A10, c10, rfl⟩ := own_form hown10)
          go_wp2_with (at_builtin; refine wpList_app0 rfl _ _ 48 rfl 52 i0 Try.underlying48 hi0 w.heap.size 3 A10 1 c10 (encI X) hown10 rfl 0 rfl ?_)
          refine ⟨⟨1, A10, c10, [X], by omega, by go_num, rfl, fun h => by omega, Lib.hid (by have h := HTS.out; simp only [Nat.zero_add] at h; rw [h]; exact insT_told HTD.out X), ⟨hown10⟩, ?_⟩, by simp [intOf]; omega⟩
          exact bgrown (balloc hbb _) hG10 (fun k hk => by simp [Value.ownBlock] at hk)
      · obtain ⟨q, rfl, hq0, hq1, hqc, hqcell⟩ := hI.row (by omega)
        clear hnil hj0
        go_wp2_with fail
        go_loopw [5] (fun at_ w6 => ∃ a2 : Nat, a2 ≤ j ∧ at_ = .int .i64 a2 ∧ Hid (∀ k, k < a2 → ahead (s.getD k default) X = true) ∧ Below wo.heap.size wo w6) (fun at_ _ => j - (intOf at_).toNat)
        case atStart => exact ⟨0, Nat.zero_le _, rfl, Lib.hid (fun k h => by omega), Below.refl _ _⟩
        case round =>
          obtain ⟨a2, ha2, rfl, HA, hb6⟩ := hrel
          have lr6 : r < wr.heap.size := Nat.lt_of_lt_of_le hr2 hb6.size
          have lq6 : q < wr.heap.size := Nat.lt_of_lt_of_le hq1 hb6.size
          have lg6 : g < wr.heap.size := Nat.lt_of_lt_of_le hg2 hb6.size
          have cg6 := (hb6.cell (p := ⟨g, 0, none⟩) hg2).trans cg
          have x0 := (hb6.cell (p := ⟨r, j * 3, none⟩) hr2).trans e0
          have x1 := (hb6.cell (p := ⟨r, j * 3 + 1, none⟩) hr2).trans e1
          have x2 := (hb6.cell (p := ⟨r, j * 3 + 2, none⟩) hr2).trans e2
          have hrest : Hid (∀ (hins : insT s X = s.take a2 ++ X :: s.drop a2), True) := Lib.hid (fun _ => trivial)
          by_cases ha : a2 < j
          · obtain ⟨y0, y1, y2⟩ := hqcell a2 ha
            have p0 := (hb6.cell (p := ⟨q, a2 * 3, none⟩) hq1).trans y0
            have p1 := (hb6.cell (p := ⟨q, a2 * 3 + 1, none⟩) hq1).trans y1
            have p2 := (hb6.cell (p := ⟨q, a2 * 3 + 2, none⟩) hq1).trans y2
            have hbc := before_call (s.getD a2 default) X
            have HAA : Hid (ahead (s.getD a2 default) X = true → ∀ k, k < a2 + 1 → ahead (s.getD k default) X = true) := Lib.hid (fun h k hk => by
              rcases Nat.lt_or_ge k a2 with h1 | h1
              · exact HA.out k h1
              · have e : k = a2 := by omega
                rw [e]; exact h)
            have HIN : Hid (ahead (s.getD a2 default) X = false → insT s X = s.take a2 ++ X :: s.drop a2) := Lib.hid (fun h => insT_at s X a2 (by omega) HA.out (.inr h))
            generalize s.getD a2 default = P at *
            generalize ahead P X = bb at *
            have hcmp := Lib.hid hbc
            have a1 : (a2 : Int) < j := by omega
            clear hbc y0 y1 y2
            go_upto_region 6 with fail
            go_still_tail 16, (by kernel_rfl)
            change wpList _ _ _ _ _ wr.drew
            have hb7 := bdrew hb6
            generalize wr.drew = w7 at *
            cases bb
            · have hins := HIN.out rfl
              have HINS := Lib.hid hins
              clear hins
              go_upto_region 9 with (go_at_call 35; refine (hcmp.out _).mono ?_; rintro e w8 ⟨rfl, hL⟩; have hb8 := bstep hL.below hb7; clear hL)
              clear hb6 hb7 x0 x1 x2 p0 p1 p2 cg6 lr6 lq6 lg6
              have I8 := hI.step hb8
              have f8 : ∀ i u, (flat (s.take a2))[i]? = some u → w8.cell? ((⟨q, 0, none⟩ : Addr).add i) = some u := fun i u hu => by
                refine I8.own.cells (g := q) rfl i u ?_
                have hfs : flat s = flat (s.take a2) ++ flat (s.drop a2) := by rw [← flat_append, List.take_append_drop]
                rw [hfs, List.getElem?_append_left (by rcases Nat.lt_or_ge i (flat (s.take a2)).length with h | h; exact h; rw [List.getElem?_eq_none h] at hu; cases hu)]
                exact hu
              have hw8 : w.heap.size ≤ w8.heap.size := Nat.le_trans hB.size hb8.size
              have hac : (a2 : Int) ≤ c' := by omega
              go_upto_region 10 with (at_builtin; refine wpList_append_own_at _ rfl _ _ 48 rfl w.heap.size 52 i0 _ 3 32 Try.underlying48 hi0 hz0 hz1 hz2 rfl (by omega) (.slice none 0 0) 0 [] rfl (World.ownsRow_nil _ _ _ 3) ⟨q, 0, none⟩ a2 c' (flat (s.take a2)) rfl (by rw [flat_len, List.length_take]; omega) f8 (flat_one _) (by simp only [maxLen]; omega) (by omega) hw8 ?_; intro v' w9 hown9 hG9 hnil9 hat9; rw [Nat.zero_add, List.nil_append] at hown9; obtain ⟨A9, c9, rfl⟩ := own_form hown9)
              have b9 : Below w8.heap.size w8 w9 := below_of_only (by simpa [Value.ownBlock] using hG9)
              have I9 := I8.step b9
              have hb9 := bstep b9 hb8
              have x0 := (hb9.cell (p := ⟨r, j * 3, none⟩) hr2).trans e0
              have x1 := (hb9.cell (p := ⟨r, j * 3 + 1, none⟩) hr2).trans e1
              have x2 := (hb9.cell (p := ⟨r, j * 3 + 2, none⟩) hr2).trans e2
              have cg9 := (hb9.cell (p := ⟨g, 0, none⟩) hg2).trans cg
              have lg9 : g < w9.heap.size := Nat.lt_of_lt_of_le hg2 hb9.size
              have lr9 : r < w9.heap.size := Nat.lt_of_lt_of_le hr2 hb9.size
              have hw9 : w.heap.size ≤ w9.heap.size := Nat.le_trans hw8 b9.size
              have hq8 : q < w8.heap.size := Nat.lt_of_lt_of_le hq1 hb8.size
              have hne9 : Value.ownBlock (.slice (some ⟨q, 0, none⟩) j c') ≠ Value.ownBlock (.slice A9 a2 c9) := by
                rcases hat9 with h | h
                · rw [h]; simp [Value.ownBlock]
                · rw [h]; simp [Value.ownBlock]; omega
              have HN9 := Lib.hid hne9
              clear hnil9 hat9 hne9 f8 hac
              go_upto_region 11 with (at_builtin; refine wpList_append_own_at _ rfl _ _ 48 rfl w.heap.size 52 i0 _ 3 32 Try.underlying48 hi0 hz0 hz1 hz2 rfl (by omega) (.slice A9 a2 c9) a2 (flat (s.take a2)) rfl (hown9.alloc _) ⟨w9.heap.size, 0, none⟩ 1 1 (encI X) rfl rfl (news_item (Blk.new w9 _ _)) (by intro u hu; simp only [encI, List.mem_cons, List.not_mem_nil, or_false] at hu; rcases hu with rfl | rfl | rfl <;> rfl) (by simp only [maxLen]; omega) (by omega) (by simp; omega) ?_; intro v' w10 hown10 hG10 hnil10 hat10; obtain ⟨A10, c10, rfl⟩ := own_form hown10)
              have I10 : RIts w10 w.heap.size (some ⟨q, 0, none⟩) j c' s := ⟨(I9.step (balloc (Below.refl _ _) _)).own.kept hG10 (.inr HN9.out)⟩
              have f10 : ∀ i u, (flat (s.drop a2))[i]? = some u → w10.cell? ((⟨q, a2 * 3, none⟩ : Addr).add i) = some u := fun i u hu => by
                have hfs : flat s = flat (s.take a2) ++ flat (s.drop a2) := by rw [← flat_append, List.take_append_drop]
                have hlen : (flat (s.take a2)).length = a2 * 3 := by rw [flat_len, List.length_take]; omega
                have h := I10.own.cells (g := q) rfl (a2 * 3 + i) u (by rw [hfs, List.getElem?_append_right (by omega), hlen, Nat.add_sub_cancel_left]; exact hu)
                rw [addr_add] at h ⊢
                rwa [Nat.zero_add] at h
              have hw10 : w.heap.size ≤ w10.heap.size := by have h := hG10.size; simp at h; omega
              have hbb10 : Below w.heap.size w w10 := bgrown (balloc (bstep hb9 hB) _) hG10 (fun k hk => (hown9.lt k hk).1)
              have k1 : ¬ a2 = c' := by omega
              have k2 : (a2 : Int) ≤ j := by omega
              have k3 : (j : Int) - a2 = ((j - a2 : Nat) : Int) := by omega
              have k4 : (c' : Int) - a2 = ((c' - a2 : Nat) : Int) := by omega
              go_wp2_with (at_builtin; (refine wpList_append_own_at _ rfl _ _ 48 rfl w.heap.size 52 i0 _ 3 32 Try.underlying48 hi0 hz0 hz1 hz2 rfl (by omega) (.slice A10 (a2 + 1) c10) (a2 + 1) (flat (s.take a2) ++ encI X) rfl hown10 ⟨q, a2 * 3, none⟩ (j - a2) (c' - a2) (flat (s.drop a2)) rfl (by rw [flat_len, List.length_drop]; omega) f10 (flat_one _) (by simp only [maxLen]; omega) (by omega) hw10 ?_; intro v' w11 hown11 hG11 hnil11 hat11; obtain ⟨A11, c11, rfl⟩ := own_form hown11))
              have hjj : a2 + 1 + (j - a2) = j + 1 := by omega
              rw [hjj] at hown11
              refine ⟨⟨j + 1, A11, c11, insT s X, by omega, by go_num, (by first | (congr 1; omega) | (congr 1)), fun h => by omega, Lib.hid (by rw [HTS.out]; exact insT_told HTD.out X), ⟨?_⟩, ?_⟩, by simp [intOf]; omega⟩
              · rw [HINS.out, flat_append]
                have e : flat (X :: s.drop a2) = encI X ++ flat (s.drop a2) := rfl
                rw [e, ← List.append_assoc]
                exact hown11
              · exact bgrown hbb10 hG11 (fun k hk => (hown10.lt k hk).1)
            · go_wp2_with (first | (go_at_call 35; refine (hcmp.out _).mono ?_; rintro e w8 ⟨rfl, hL⟩; have hb8 := bstep hL.below hb7; clear hL))
              exact ⟨⟨a2 + 1, by omega, by go_num, Lib.hid (HAA.out (by first | trivial | rfl)), hb8⟩, by simp [intOf]; omega⟩
          · have hins := insT_at s X a2 (by omega) HA.out (.inl (by omega))
            have HINS := Lib.hid hins
            have a1 : ¬ (a2 : Int) < j := by omega
            clear hins
            go_upto_region 6 with fail
            go_quiet (fail)
            have hb8 := bdrewN hb6 nq
            generalize wr.drewN nq = w8 at *
            clear hb6 x0 x1 x2 cg6 lr6 lq6 lg6
            go_upto_region 9 with fail
            have I8 := hI.step hb8
            have f8 : ∀ i u, (flat (s.take a2))[i]? = some u → w8.cell? ((⟨q, 0, none⟩ : Addr).add i) = some u := fun i u hu => by
              refine I8.own.cells (g := q) rfl i u ?_
              have hfs : flat s = flat (s.take a2) ++ flat (s.drop a2) := by rw [← flat_append, List.take_append_drop]
              rw [hfs, List.getElem?_append_left (by rcases Nat.lt_or_ge i (flat (s.take a2)).length with h | h; exact h; rw [List.getElem?_eq_none h] at hu; cases hu)]
              exact hu
            have hw8 : w.heap.size ≤ w8.heap.size := Nat.le_trans hB.size hb8.size
            have hac : (a2 : Int) ≤ c' := by omega
            go_upto_region 10 with (at_builtin; refine wpList_append_own_at _ rfl _ _ 48 rfl w.heap.size 52 i0 _ 3 32 Try.underlying48 hi0 hz0 hz1 hz2 rfl (by omega) (.slice none 0 0) 0 [] rfl (World.ownsRow_nil _ _ _ 3) ⟨q, 0, none⟩ a2 c' (flat (s.take a2)) rfl (by rw [flat_len, List.length_take]; omega) f8 (flat_one _) (by simp only [maxLen]; omega) (by omega) hw8 ?_; intro v' w9 hown9 hG9 hnil9 hat9; rw [Nat.zero_add, List.nil_append] at hown9; obtain ⟨A9, c9, rfl⟩ := own_form hown9)
            have b9 : Below w8.heap.size w8 w9 := below_of_only (by simpa [Value.ownBlock] using hG9)
            have I9 := I8.step b9
            have hb9 := bstep b9 hb8
            have x0 := (hb9.cell (p := ⟨r, j * 3, none⟩) hr2).trans e0
            have x1 := (hb9.cell (p := ⟨r, j * 3 + 1, none⟩) hr2).trans e1
            have x2 := (hb9.cell (p := ⟨r, j * 3 + 2, none⟩) hr2).trans e2
            have cg9 := (hb9.cell (p := ⟨g, 0, none⟩) hg2).trans cg
            have lg9 : g < w9.heap.size := Nat.lt_of_lt_of_le hg2 hb9.size
            have lr9 : r < w9.heap.size := Nat.lt_of_lt_of_le hr2 hb9.size
            have hw9 : w.heap.size ≤ w9.heap.size := Nat.le_trans hw8 b9.size
            have hq8 : q < w8.heap.size := Nat.lt_of_lt_of_le hq1 hb8.size
            have hne9 : Value.ownBlock (.slice (some ⟨q, 0, none⟩) j c') ≠ Value.ownBlock (.slice A9 a2 c9) := by
              rcases hat9 with h | h
              · rw [h]; simp [Value.ownBlock]
              · rw [h]; simp [Value.ownBlock]; omega
            have HN9 := Lib.hid hne9
            clear hnil9 hat9 hne9 f8 hac
            go_upto_region 11 with (at_builtin; refine wpList_append_own_at _ rfl _ _ 48 rfl w.heap.size 52 i0 _ 3 32 Try.underlying48 hi0 hz0 hz1 hz2 rfl (by omega) (.slice A9 a2 c9) a2 (flat (s.take a2)) rfl (hown9.alloc _) ⟨w9.heap.size, 0, none⟩ 1 1 (encI X) rfl rfl (news_item (Blk.new w9 _ _)) (by intro u hu; simp only [encI, List.mem_cons, List.not_mem_nil, or_false] at hu; rcases hu with rfl | rfl | rfl <;> rfl) (by simp only [maxLen]; omega) (by omega) (by simp; omega) ?_; intro v' w10 hown10 hG10 hnil10 hat10; obtain ⟨A10, c10, rfl⟩ := own_form hown10)
            have I10 : RIts w10 w.heap.size (some ⟨q, 0, none⟩) j c' s := ⟨(I9.step (balloc (Below.refl _ _) _)).own.kept hG10 (.inr HN9.out)⟩
            by_cases hcap : a2 = c'
            · have hw10 : w.heap.size ≤ w10.heap.size := by have h := hG10.size; simp at h; omega
              have hbb10 : Below w.heap.size w w10 := bgrown (balloc (bstep hb9 hB) _) hG10 (fun k hk => (hown9.lt k hk).1)
              have k2 : (a2 : Int) ≤ j := by omega
              have k3 : (j : Int) - a2 = 0 := by omega
              have k5 : j - a2 = 0 := by omega
              have k4 : (c' : Int) - a2 = ((c' - a2 : Nat) : Int) := by omega
              go_wp2_with (at_builtin; (refine wpList_append_own_at _ rfl _ _ 48 rfl w.heap.size 52 i0 _ 3 32 Try.underlying48 hi0 hz0 hz1 hz2 rfl (by omega) (.slice A10 (a2 + 1) c10) (a2 + 1) (flat (s.take a2) ++ encI X) rfl hown10 ⟨q, 0, none⟩ 0 0 [] rfl rfl (fun i u hu => by cases hu) (fun u hu => by cases hu) (by simp only [maxLen]; omega) (by omega) hw10 ?_; intro v' w11 hown11 hG11 hnil11 hat11; obtain ⟨A11, c11, rfl⟩ := own_form hown11))
              have hjj : a2 + 1 + 0 = j + 1 := by omega
              rw [hjj] at hown11
              refine ⟨⟨j + 1, A11, c11, insT s X, by omega, by go_num, (by first | (congr 1; omega) | (congr 1)), fun h => by omega, Lib.hid (by rw [HTS.out]; exact insT_told HTD.out X), ⟨?_⟩, ?_⟩, by simp [intOf]; omega⟩
              · have hdr : s.drop a2 = [] := List.drop_eq_nil_of_le (by omega)
                rw [HINS.out, hdr, flat_append]
                have e : flat [X] = encI X ++ [] := rfl
                rw [e, ← List.append_assoc]
                exact hown11
              · exact bgrown hbb10 hG11 (fun k hk => (hown10.lt k hk).1)
            · have hw10 : w.heap.size ≤ w10.heap.size := by have h := hG10.size; simp at h; omega
              have hbb10 : Below w.heap.size w w10 := bgrown (balloc (bstep hb9 hB) _) hG10 (fun k hk => (hown9.lt k hk).1)
              have k2 : (a2 : Int) ≤ j := by omega
              have k3 : (j : Int) - a2 = 0 := by omega
              have k5 : j - a2 = 0 := by omega
              have k4 : (c' : Int) - a2 = ((c' - a2 : Nat) : Int) := by omega
              go_wp2_with (at_builtin; (refine wpList_append_own_at _ rfl _ _ 48 rfl w.heap.size 52 i0 _ 3 32 Try.underlying48 hi0 hz0 hz1 hz2 rfl (by omega) (.slice A10 (a2 + 1) c10) (a2 + 1) (flat (s.take a2) ++ encI X) rfl hown10 ⟨q, a2 * 3, none⟩ 0 (c' - a2) [] rfl rfl (fun i u hu => by cases hu) (fun u hu => by cases hu) (by simp only [maxLen]; omega) (by omega) hw10 ?_; intro v' w11 hown11 hG11 hnil11 hat11; obtain ⟨A11, c11, rfl⟩ := own_form hown11))
              have hjj : a2 + 1 + 0 = j + 1 := by omega
              rw [hjj] at hown11
              refine ⟨⟨j + 1, A11, c11, insT s X, by omega, by go_num, (by first | (congr 1; omega) | (congr 1)), fun h => by omega, Lib.hid (by rw [HTS.out]; exact insT_told HTD.out X), ⟨?_⟩, ?_⟩, by simp [intOf]; omega⟩
              · have hdr : s.drop a2 = [] := List.drop_eq_nil_of_le (by omega)
                rw [HINS.out, hdr, flat_append]
                have e : flat [X] = encI X ++ [] := rfl
                rw [e, ← List.append_assoc]
                exact hown11
              · exact bgrown hbb10 hG11 (fun k hk => (hown10.lt k hk).1)
    · have e : j = n := by omega
      have htk : l.take j = l := List.take_of_length_le (by omega)
      have HTD2 : Hid (Told l s) := by rw [htk] at HTD; exact HTD
      have j1 : ¬ (j : Int) < n := by omega
      have hje : Hid (j = n) := Lib.hid e
      clear htk e HTD
      go_wp2_with fail
      go_ret
      exact ⟨A', c', by rw [← hje.out]; rfl, s, HTD2.out, by rw [← hje.out]; exact hI, hB⟩
end Go.Proofs.Ytcbheekfdhklcaa

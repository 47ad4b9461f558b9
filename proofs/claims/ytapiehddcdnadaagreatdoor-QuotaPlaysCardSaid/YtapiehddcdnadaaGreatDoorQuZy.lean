/- The law's refState. -/
import Derived.Test.YtapiehddcdnadaaGreatDoorM14
import Derived.Deep.RegionHeld
namespace Go.Proofs.YtapiehddcdnadaaGreatDoor
open Go.RowKit
set_option linter.unusedVariables false
set_option linter.unusedSimpArgs false

theorem take_one {P : Program} {ops : Array Oper} {Q : Exit → Act → World → Prop} {md : Region.Mode} {S : World → Prop} {i : Nat} {oi : Oper} {v : Value} {fuel : Nat} {listed : Array Bool} {a : Act} {w : World} (hi : ops[i]? = some oi)
    (hs : Region.noSelect ops = true) (hf : Region.free md ops listed i = true) (hr : (Region.ready md ops listed).contains i = true) (hw : Region.wanted oi (yielded ops a.tmps) = true) (hS : S w)
    (hy : ∀ w, S w → (execOp a.eval oi).run P w = .ok (.value v) w) (hQ : ∀ c a w, Q (.panic c) (a.put oi.dst v) w → Q (.panic c) a w)
    (h : wpAnyH P md ops Q S fuel (listed.setIfInBounds i true) (a.put oi.dst v) w) : wpAnyH P md ops Q S (fuel + 1) listed a w :=
  wpAnyH_take hi hs hf hr hQ (.inl ⟨hw, hy⟩) hS h
/-- A stronger condition from here on. -/
theorem wpAnyH_switch {P : Program} {ops : Array Oper} {Q : Exit → Act → World → Prop} {md : Region.Mode} {S S' : World → Prop} (hSS : ∀ w, S' w → S w) : ∀ (fuel : Nat) (listed : Array Bool) (a : Act) (w : World), wpAnyH P md ops Q S' fuel listed a w → wpAnyH P md ops Q S fuel listed a w
  | 0, _, _, _, h => h
  | fuel + 1, _, _, _, h => ⟨h.1, fun i hi => wpOp_mono (fun a' w' h' => ⟨hSS _ h'.1, wpAnyH_switch hSS fuel _ a' w' h'.2⟩) (h.2 i hi)⟩
set_option maxRecDepth 100000 in
set_option maxHeartbeats 4000000 in
theorem refState_call (win : Int) (closed : Bool) (s1 s2 : ByteArray) (seen : Int) (A : Option Addr) (n c : Nat) (l : List It) (w : World) (R : ItRow w A n l) (hn : n ≤ 4398046511103) :
    Calls Tryz.prog 25 #[stV win closed s1 s2 seen A n c] w fun e w' => (∃ A' c', e = .returned (stV win closed s1 s2 seen A' n c') ∧ RIts w' (w.heap.size + 3) A' n c' l) ∧ Below w.heap.size w w' := by
  have hln := R.len
  obtain ⟨i0, hi0, hz0, hz1, hz2⟩ := info_parts info_ritem
  unfold stV
  go_enter Tryz.func25, Tryz.ntmps25
  go_wp2_with fail
  have B1 := ((Blk.new w 59 #[.int .i64 win, .bool closed, .string s1, .string s2, .int .u64 seen, .slice A n c]).alloc (.cells #[.int .i64 0, .bool false, .string ⟨#[]⟩, .string ⟨#[]⟩, .int .u64 0, .slice none 0 0] 64)).alloc (.cells #[.int .i64 win, .bool closed, .string s1, .string s2, .int .u64 seen, .slice none 0 0] 64)
  have B2 := (Blk.newAt (w := w.alloc (.cells #[.int .i64 win, .bool closed, .string s1, .string s2, .int .u64 seen, .slice A n c] 59)) (g := w.heap.size + 1) (t := 64) (cs := #[.int .i64 0, .bool false, .string ⟨#[]⟩, .string ⟨#[]⟩, .int .u64 0, .slice none 0 0]) (by simp)).alloc (.cells #[.int .i64 win, .bool closed, .string s1, .string s2, .int .u64 seen, .slice none 0 0] 64)
  have B3 := Blk.newAt (w := (w.alloc (.cells #[.int .i64 win, .bool closed, .string s1, .string s2, .int .u64 seen, .slice A n c] 59)).alloc (.cells #[.int .i64 0, .bool false, .string ⟨#[]⟩, .string ⟨#[]⟩, .int .u64 0, .slice none 0 0] 64)) (g := w.heap.size + 1 + 1) (t := 64) (cs := #[.int .i64 win, .bool closed, .string s1, .string s2, .int .u64 seen, .slice none 0 0]) (by simp)
  have bb := balloc (balloc (balloc (Below.refl w.heap.size w) (.cells #[.int .i64 win, .bool closed, .string s1, .string s2, .int .u64 seen, .slice A n c] 59)) (.cells #[.int .i64 0, .bool false, .string ⟨#[]⟩, .string ⟨#[]⟩, .int .u64 0, .slice none 0 0] 64)) (.cells #[.int .i64 win, .bool closed, .string s1, .string s2, .int .u64 seen, .slice none 0 0] 64)
  generalize (((w.alloc (.cells #[.int .i64 win, .bool closed, .string s1, .string s2, .int .u64 seen, .slice A n c] 59)).alloc (.cells #[.int .i64 0, .bool false, .string ⟨#[]⟩, .string ⟨#[]⟩, .int .u64 0, .slice none 0 0] 64)).alloc (.cells #[.int .i64 win, .bool closed, .string s1, .string s2, .int .u64 seen, .slice none 0 0] 64)) = w1 at *
  have I0 : RIts w1 (w.heap.size + 3) none 0 0 [] := RIts.nil
  go_loopw [4] (fun i wr => ∃ (j : Nat) (A' : Option Addr) (c' : Nat), j ≤ n ∧ i = .int .i64 j ∧ Blk wr w.heap.size 59 #[.int .i64 win, .bool closed, .string s1, .string s2, .int .u64 seen, .slice A n c] ∧ Blk wr (w.heap.size + 1) 64 #[.int .i64 0, .bool false, .string ⟨#[]⟩, .string ⟨#[]⟩, .int .u64 0, .slice none 0 0] ∧ Blk wr (w.heap.size + 1 + 1) 64 #[.int .i64 win, .bool closed, .string s1, .string s2, .int .u64 seen, .slice A' j c'] ∧ RIts wr (w.heap.size + 3) A' j c' (l.take j) ∧ Below w.heap.size w wr) (fun i _ => n - (intOf i).toNat)
  case atStart => exact ⟨0, none, 0, Nat.zero_le _, rfl, B1, B2, B3, I0, bb⟩
  case round =>
    clear B1 B2 B3 bb I0
    obtain ⟨j, A', c', hj, rfl, B1, B2, B3, hI, hB⟩ := hrel
    have k1 : _ = some (Value.slice A n c) := B1.cellAt 5 rfl
    have k3 : _ = some (Value.slice A' j c') := B3.cellAt 5 rfl
    have l1 := B1.lt
    have l3 := B3.lt
    by_cases hjn : j < n
    · obtain ⟨b, off, rfl, hbl, hcell⟩ := R.at_ (by omega)
      obtain ⟨x0, x1, x2⟩ := hcell j hjn
      have e0 := (hB.cell (p := ⟨b, off + j * 3, none⟩) hbl).trans x0
      have e1 := (hB.cell (p := ⟨b, off + j * 3 + 1, none⟩) hbl).trans x1
      have e2 := (hB.cell (p := ⟨b, off + j * 3 + 2, none⟩) hbl).trans x2
      have hS1 : Hid (∀ V, Below w.heap.size w V → Blk V w.heap.size 59 #[.int .i64 win, .bool closed, .string s1, .string s2, .int .u64 seen, .slice (some ⟨b, off, none⟩) n c] → V.cell? ⟨w.heap.size, 5, none⟩ = some (.slice (some ⟨b, off, none⟩) n c) ∧ V.cell? ⟨b, off + j * 3, none⟩ = some (.string (l.getD j default).name) ∧ V.cell? ⟨b, off + j * 3 + 1, none⟩ = some (.int .u64 (l.getD j default).many) ∧ V.cell? ⟨b, off + j * 3 + 2, none⟩ = some (.int .u64 (l.getD j default).over)) := Lib.hid (fun V hV hB => ⟨hB.cellAt 5 rfl, (hV.cell (p := ⟨b, off + j * 3, none⟩) hbl).trans x0, (hV.cell (p := ⟨b, off + j * 3 + 1, none⟩) hbl).trans x1, (hV.cell (p := ⟨b, off + j * 3 + 2, none⟩) hbl).trans x2⟩)
      have hts := take_snocI l j (by omega)
      have HTS := Lib.hid hts
      clear hcell x0 x1 x2 hts
      generalize l.getD j default = X at *
      have hj1 : (j : Int) < n := by omega
      have hbs := hB.size
      go_upto_region 5 with fail
      have hbr : b < wr.heap.size := Nat.lt_of_lt_of_le hbl hB.size
      have HB := Lib.hid hB
      have HI := Lib.hid hI
      have HB1 := Lib.hid B1
      have HB2 := Lib.hid B2
      have HB3 := Lib.hid B3
      have hrow : Hid (∀ (V w5 : World) (k : Nat), k < w.heap.size + 3 → V.grownBy w5 (Value.ownBlock (.slice A' j c')) → ∀ t cs, Blk V k t cs → Blk w5 k t cs) := Lib.hid (fun V w5 k hk hG t cs hb => Blk.grown hG hb (fun e => by have := (HI.out.own.lt k e.symm).1; omega))
      clear hB hI B1 B2 B3
      have hS0 : Hid (∀ V, Below wr.heap.size wr V → (fun (w' : World) => w'.cell? ⟨w.heap.size, 5, none⟩ = some (.slice (some ⟨b, off, none⟩) n c) ∧ w'.cell? ⟨b, off + j * 3, none⟩ = some (.string X.name) ∧ w'.cell? ⟨b, off + j * 3 + 1, none⟩ = some (.int .u64 X.many) ∧ w'.cell? ⟨b, off + j * 3 + 2, none⟩ = some (.int .u64 X.over)) V) := Lib.hid (fun V hV => ⟨(hV.cell (p := ⟨w.heap.size, 5, none⟩) l1).trans k1, (hV.cell (p := ⟨b, off + j * 3, none⟩) hbr).trans e0, (hV.cell (p := ⟨b, off + j * 3 + 1, none⟩) hbr).trans e1, (hV.cell (p := ⟨b, off + j * 3 + 2, none⟩) hbr).trans e2⟩)
      refine wp_region_held_drew (S := (fun (w' : World) => w'.cell? ⟨w.heap.size, 5, none⟩ = some (.slice (some ⟨b, off, none⟩) n c) ∧ w'.cell? ⟨b, off + j * 3, none⟩ = some (.string X.name) ∧ w'.cell? ⟨b, off + j * 3 + 1, none⟩ = some (.int .u64 X.many) ∧ w'.cell? ⟨b, off + j * 3 + 2, none⟩ = some (.int .u64 X.over))) (by kernel_rfl) (hS0.out _ (bdrew (Below.refl _ _))) (fun hHeld => ?_)
      refine take_one (i := 0) (v := ?_) rfl (by kernel_rfl) (by kernel_rfl) (by kernel_rfl) (by rfl) hHeld ?_ (fun _ _ _ h => h) ?_
      rotate_left
      · (intro w hSw; (try dsimp only at hSw); go_simp; try with_reducible rfl)
      try simp only [Act.put, List.setIfInBounds_toArray, List.set_cons_zero, List.set_cons_succ]
      refine take_one (i := 2) (v := ?_) rfl (by kernel_rfl) (by kernel_rfl) (by kernel_rfl) (by rfl) hHeld ?_ (fun _ _ _ h => h) ?_
      rotate_left
      · (intro w hSw; (try dsimp only at hSw); go_simp; try with_reducible rfl)
      try simp only [Act.put, List.setIfInBounds_toArray, List.set_cons_zero, List.set_cons_succ]
      refine take_one (i := 3) (v := ?_) rfl (by kernel_rfl) (by kernel_rfl) (by kernel_rfl) (by rfl) hHeld ?_ (fun _ _ _ h => h) ?_
      rotate_left
      · (intro w hSw; (try dsimp only at hSw); go_simp; try with_reducible rfl)
      try simp only [Act.put, List.setIfInBounds_toArray, List.set_cons_zero, List.set_cons_succ]
      refine take_one (i := 4) (v := ?_) rfl (by kernel_rfl) (by kernel_rfl) (by kernel_rfl) (by rfl) hHeld ?_ (fun _ _ _ h => h) ?_
      rotate_left
      · (intro w hSw; (try dsimp only at hSw); go_simp; try with_reducible rfl)
      try simp only [Act.put, List.setIfInBounds_toArray, List.set_cons_zero, List.set_cons_succ]
      refine take_one (i := 5) (v := ?_) rfl (by kernel_rfl) (by kernel_rfl) (by kernel_rfl) (by rfl) hHeld ?_ (fun _ _ _ h => h) ?_
      rotate_left
      · (intro w hSw; (try dsimp only at hSw); go_simp; try with_reducible rfl)
      try simp only [Act.put, List.setIfInBounds_toArray, List.set_cons_zero, List.set_cons_succ]
      refine take_one (i := 6) (v := ?_) rfl (by kernel_rfl) (by kernel_rfl) (by kernel_rfl) (by rfl) hHeld ?_ (fun _ _ _ h => h) ?_
      rotate_left
      · (intro w hSw; (try dsimp only at hSw); go_simp; try with_reducible rfl)
      try simp only [Act.put, List.setIfInBounds_toArray, List.set_cons_zero, List.set_cons_succ]
      refine take_one (i := 7) (v := ?_) rfl (by kernel_rfl) (by kernel_rfl) (by kernel_rfl) (by rfl) hHeld ?_ (fun _ _ _ h => h) ?_
      rotate_left
      · (intro w hSw; (try dsimp only at hSw); go_simp; try with_reducible rfl)
      try simp only [Act.put, List.setIfInBounds_toArray, List.set_cons_zero, List.set_cons_succ]
      refine take_one (i := 8) (v := ?_) rfl (by kernel_rfl) (by kernel_rfl) (by kernel_rfl) (by rfl) hHeld ?_ (fun _ _ _ h => h) ?_
      rotate_left
      · (intro w hSw; (try dsimp only at hSw); go_simp; try with_reducible rfl)
      try simp only [Act.put, List.setIfInBounds_toArray, List.set_cons_zero, List.set_cons_succ]
      refine take_one (i := 9) (v := ?_) rfl (by kernel_rfl) (by kernel_rfl) (by kernel_rfl) (by rfl) hHeld ?_ (fun _ _ _ h => h) ?_
      rotate_left
      · (intro w hSw; (try dsimp only at hSw); go_simp; try with_reducible rfl)
      try simp only [Act.put, List.setIfInBounds_toArray, List.set_cons_zero, List.set_cons_succ]
      refine take_one (i := 10) (v := ?_) rfl (by kernel_rfl) (by kernel_rfl) (by kernel_rfl) (by rfl) hHeld ?_ (fun _ _ _ h => h) ?_
      rotate_left
      · (intro w hSw; (try dsimp only at hSw); go_simp; try with_reducible rfl)
      try simp only [Act.put, List.setIfInBounds_toArray, List.set_cons_zero, List.set_cons_succ]
      refine take_one (i := 11) (v := ?_) rfl (by kernel_rfl) (by kernel_rfl) (by kernel_rfl) (by rfl) hHeld ?_ (fun _ _ _ h => h) ?_
      rotate_left
      · (intro w hSw; (try dsimp only at hSw); go_simp; try with_reducible rfl)
      try simp only [Act.put, List.setIfInBounds_toArray, List.set_cons_zero, List.set_cons_succ]
      refine take_one (i := 12) (v := ?_) rfl (by kernel_rfl) (by kernel_rfl) (by kernel_rfl) (by rfl) hHeld ?_ (fun _ _ _ h => h) ?_
      rotate_left
      · (intro w hSw; (try dsimp only at hSw); go_simp; try with_reducible rfl)
      try simp only [Act.put, List.setIfInBounds_toArray, List.set_cons_zero, List.set_cons_succ]
      refine take_one (i := 13) (v := ?_) rfl (by kernel_rfl) (by kernel_rfl) (by kernel_rfl) (by rfl) hHeld ?_ (fun _ _ _ h => h) ?_
      rotate_left
      · (intro w hSw; (try dsimp only at hSw); go_simp; try with_reducible rfl)
      try simp only [Act.put, List.setIfInBounds_toArray, List.set_cons_zero, List.set_cons_succ]
      refine take_one (i := 14) (v := ?_) rfl (by kernel_rfl) (by kernel_rfl) (by kernel_rfl) (by rfl) hHeld ?_ (fun _ _ _ h => h) ?_
      rotate_left
      · (intro w hSw; (try dsimp only at hSw); go_simp; try with_reducible rfl)
      try simp only [Act.put, List.setIfInBounds_toArray, List.set_cons_zero, List.set_cons_succ]
      refine take_one (i := 15) (v := ?_) rfl (by kernel_rfl) (by kernel_rfl) (by kernel_rfl) (by rfl) hHeld ?_ (fun _ _ _ h => h) ?_
      rotate_left
      · (intro w hSw; (try dsimp only at hSw); go_simp; try with_reducible rfl)
      try simp only [Act.put, List.setIfInBounds_toArray, List.set_cons_zero, List.set_cons_succ]
      refine take_one (i := 16) (v := ?_) rfl (by kernel_rfl) (by kernel_rfl) (by kernel_rfl) (by rfl) hHeld ?_ (fun _ _ _ h => h) ?_
      rotate_left
      · (intro w hSw; (try dsimp only at hSw); go_simp; try with_reducible rfl)
      try simp only [Act.put, List.setIfInBounds_toArray, List.set_cons_zero, List.set_cons_succ]
      refine take_one (i := 17) (v := ?_) rfl (by kernel_rfl) (by kernel_rfl) (by kernel_rfl) (by rfl) hHeld ?_ (fun _ _ _ h => h) ?_
      rotate_left
      · (intro w hSw; (try dsimp only at hSw); go_simp; try with_reducible rfl)
      try simp only [Act.put, List.setIfInBounds_toArray, List.set_cons_zero, List.set_cons_succ]
      refine take_one (i := 18) (v := ?_) rfl (by kernel_rfl) (by kernel_rfl) (by kernel_rfl) (by rfl) hHeld ?_ (fun _ _ _ h => h) ?_
      rotate_left
      · (intro w hSw; (try dsimp only at hSw); go_simp; try with_reducible rfl)
      try simp only [Act.put, List.setIfInBounds_toArray, List.set_cons_zero, List.set_cons_succ]
      refine take_one (i := 19) (v := ?_) rfl (by kernel_rfl) (by kernel_rfl) (by kernel_rfl) (by rfl) hHeld ?_ (fun _ _ _ h => h) ?_
      rotate_left
      · (intro w hSw; (try dsimp only at hSw); go_simp; try with_reducible rfl)
      try simp only [Act.put, List.setIfInBounds_toArray, List.set_cons_zero, List.set_cons_succ]
      refine take_one (i := 20) (v := ?_) rfl (by kernel_rfl) (by kernel_rfl) (by kernel_rfl) (by rfl) hHeld ?_ (fun _ _ _ h => h) ?_
      rotate_left
      · (intro w hSw; (try dsimp only at hSw); go_simp; try with_reducible rfl)
      try simp only [Act.put, List.setIfInBounds_toArray, List.set_cons_zero, List.set_cons_succ]
      have k3d : wr.drew.cell? ⟨w.heap.size + 1 + 1, 5, none⟩ = some (.slice A' j c') := k3
      refine wpAnyH_ready (rs := [1, 21]) (by kernel_rfl) (by simp) ?_
      refine AllReadyH.cons rfl (fun K hK => ?_) (AllReadyH.cons rfl (fun K hK => ?_) AllReadyH.nil)
      · go_simp
        refine hK.out _ _ (hS0.out _ (bdrew (Below.refl _ _))) (fun hH2 => ?_)
        clear hK K hHeld
        have hHeld := hH2
        clear hH2
        try simp only [Act.put, List.setIfInBounds_toArray, List.set_cons_zero, List.set_cons_succ]
        refine wpAnyH_ready (rs := [21]) (by kernel_rfl) (by simp) ?_
        refine AllReadyH.cons rfl (fun K hK => ?_) AllReadyH.nil
        go_simp
        refine hK.out _ _ (hS0.out _ (bdrew (balloc (Below.refl _ _) _))) (fun hH2 => ?_)
        clear hK K hHeld
        have hHeld := hH2
        clear hH2
        try simp only [Act.put, List.setIfInBounds_toArray, List.set_cons_zero, List.set_cons_succ]
        refine wpAnyH_ready (rs := [22]) (by kernel_rfl) (by simp) ?_
        refine AllReadyH.cons rfl (fun K hK => ?_) AllReadyH.nil
        refine step_appI rfl (.tmp 24) (.tmp 44) 52 rfl (w.heap.size + 3) 109 i0 _ 3 32 Tryz.underlying52 hi0 hz0 hz1 hz2 rfl (by omega) (.slice A' j c') j (flat (l.take j)) (by simp [Act.eval, Act.put]) ((HI.out.step (bdrew (balloc (Below.refl _ _) _))).own) ⟨wr.heap.size, 0, none⟩ 1 1 (encI X) (by simp [Act.eval, Act.put]) rfl (news_item (Blk.new wr _ _).drew) (by intro u hu; simp only [encI, List.mem_cons, List.not_mem_nil, or_false] at hu; rcases hu with rfl | rfl | rfl <;> rfl) (by simp only [maxLen]; omega) (by omega) (by simp; omega) ?_
        intro v' w5 hown5 hG5
        obtain ⟨A5, c5, rfl⟩ := own_form hown5
        have B5 := hrow.out _ _ _ (by omega) hG5 _ _ (Blk.step (bdrew (balloc (Below.refl _ _) _)) HB3.out)
        have kl5 := B5.lt
        have kf5 := B5.frozen
        have k5 : _ = some (Value.slice A' j c') := B5.cellAt 5 rfl
        have B15 := hrow.out _ _ _ (by omega) hG5 _ _ (Blk.step (bdrew (balloc (Below.refl _ _) _)) HB1.out)
        have B25 := hrow.out _ _ _ (by omega) hG5 _ _ (Blk.step (bdrew (balloc (Below.refl _ _) _)) HB2.out)
        have hn1 := B5.ne_ B15 (by decide)
        have B16 := B15.far (p := ⟨w.heap.size + 1 + 1, 5, none⟩) (fun e => hn1 e.symm) (.slice A5 (j + 1) c5)
        have B26 := B25.far (p := ⟨w.heap.size + 1 + 1, 5, none⟩) (by intro e; have : w.heap.size + 1 = w.heap.size + 1 + 1 := e; omega) (.slice A5 (j + 1) c5)
        have B36 := B5.put 5 (.slice A5 (j + 1) c5)
        have hG6 : w5.grownBy (w5.setCell ⟨w.heap.size + 1 + 1, 5, none⟩ (.slice A5 (j + 1) c5)) (some (w.heap.size + 1 + 1)) := only_set _ _ _ _
        have I5 : RIts w5 (w.heap.size + 3) A5 (j + 1) c5 (l.take (j + 1)) := ⟨by rw [HTS.out, flat_append]; simpa [flat] using hown5⟩
        have I6 : RIts (w5.setCell ⟨w.heap.size + 1 + 1, 5, none⟩ (.slice A5 (j + 1) c5)) (w.heap.size + 3) A5 (j + 1) c5 (l.take (j + 1)) := ⟨I5.own.kept hG6 (.inr (fun e => I5.far B5 (by decide) e.symm))⟩
        have b5 := bgrown (bdrew (balloc HB.out _)) hG5 (fun k hk => by have := (HI.out.own.lt k hk).1; omega)
        have b6 := bgrown b5 hG6 (fun k hk => by injection hk with hk; omega)
        refine hK.out _ _ (hS1.out _ b5 B15) (fun hH2 => ?_)
        clear hK K hHeld
        have hHeld := hH2
        clear hH2
        try simp only [Act.put, List.setIfInBounds_toArray, List.set_cons_zero, List.set_cons_succ]
        have HH := Lib.hid (And.intro B16 (And.intro B26 (And.intro B36 (And.intro I6 b6))))
        clear B15 B25 B16 B26 B36 hG6 I5 I6 b5 b6 hG5 hown5 hn1 B5
        refine take_one (i := 23) (v := ?_) rfl (by kernel_rfl) (by kernel_rfl) (by kernel_rfl) (by rfl) hHeld ?_ (fun _ _ _ h => h) ?_
        rotate_left
        · (intro w hSw; (try dsimp only at hSw); go_simp; try with_reducible rfl)
        try simp only [Act.put, List.setIfInBounds_toArray, List.set_cons_zero, List.set_cons_succ]
        refine wpAnyH_ready (rs := [24]) (by kernel_rfl) (by simp) ?_
        refine AllReadyH.cons rfl (fun K hK => ?_) AllReadyH.nil
        go_simp
        refine hK.out _ _ (hS1.out _ HH.out.2.2.2.2 HH.out.1) (fun hH2 => ?_)
        clear hK K hHeld
        have hHeld := hH2
        clear hH2
        try simp only [Act.put, List.setIfInBounds_toArray, List.set_cons_zero, List.set_cons_succ]
        refine wpAnyH_done (by kernel_rfl) ?_ _
        generalize (w5.setCell ⟨w.heap.size + 1 + 1, 5, none⟩ (.slice A5 (j + 1) c5)) = w6 at *
        go_wp2_with fail
        exact ⟨⟨j + 1, A5, c5, by omega, by go_num, HH.out.1, HH.out.2.1, HH.out.2.2.1, HH.out.2.2.2.1, HH.out.2.2.2.2⟩, by simp [intOf]; omega⟩
      · go_simp
        refine hK.out _ _ (hS0.out _ (bdrew (balloc (Below.refl _ _) _))) (fun hH2 => ?_)
        clear hK K hHeld
        have hHeld := hH2
        clear hH2
        try simp only [Act.put, List.setIfInBounds_toArray, List.set_cons_zero, List.set_cons_succ]
        refine wpAnyH_ready (rs := [1]) (by kernel_rfl) (by simp) ?_
        refine AllReadyH.cons rfl (fun K hK => ?_) AllReadyH.nil
        go_simp
        refine hK.out _ _ (hS0.out _ (bdrew (balloc (Below.refl _ _) _))) (fun hH2 => ?_)
        clear hK K hHeld
        have hHeld := hH2
        clear hH2
        try simp only [Act.put, List.setIfInBounds_toArray, List.set_cons_zero, List.set_cons_succ]
        refine wpAnyH_ready (rs := [22]) (by kernel_rfl) (by simp) ?_
        refine AllReadyH.cons rfl (fun K hK => ?_) AllReadyH.nil
        refine step_appI rfl (.tmp 24) (.tmp 44) 52 rfl (w.heap.size + 3) 109 i0 _ 3 32 Tryz.underlying52 hi0 hz0 hz1 hz2 rfl (by omega) (.slice A' j c') j (flat (l.take j)) (by simp [Act.eval, Act.put]) ((HI.out.step (bdrew (balloc (Below.refl _ _) _))).own) ⟨wr.heap.size, 0, none⟩ 1 1 (encI X) (by simp [Act.eval, Act.put]) rfl (news_item (Blk.new wr _ _).drew) (by intro u hu; simp only [encI, List.mem_cons, List.not_mem_nil, or_false] at hu; rcases hu with rfl | rfl | rfl <;> rfl) (by simp only [maxLen]; omega) (by omega) (by simp; omega) ?_
        intro v' w5 hown5 hG5
        obtain ⟨A5, c5, rfl⟩ := own_form hown5
        have B5 := hrow.out _ _ _ (by omega) hG5 _ _ (Blk.step (bdrew (balloc (Below.refl _ _) _)) HB3.out)
        have kl5 := B5.lt
        have kf5 := B5.frozen
        have k5 : _ = some (Value.slice A' j c') := B5.cellAt 5 rfl
        have B15 := hrow.out _ _ _ (by omega) hG5 _ _ (Blk.step (bdrew (balloc (Below.refl _ _) _)) HB1.out)
        have B25 := hrow.out _ _ _ (by omega) hG5 _ _ (Blk.step (bdrew (balloc (Below.refl _ _) _)) HB2.out)
        have hn1 := B5.ne_ B15 (by decide)
        have B16 := B15.far (p := ⟨w.heap.size + 1 + 1, 5, none⟩) (fun e => hn1 e.symm) (.slice A5 (j + 1) c5)
        have B26 := B25.far (p := ⟨w.heap.size + 1 + 1, 5, none⟩) (by intro e; have : w.heap.size + 1 = w.heap.size + 1 + 1 := e; omega) (.slice A5 (j + 1) c5)
        have B36 := B5.put 5 (.slice A5 (j + 1) c5)
        have hG6 : w5.grownBy (w5.setCell ⟨w.heap.size + 1 + 1, 5, none⟩ (.slice A5 (j + 1) c5)) (some (w.heap.size + 1 + 1)) := only_set _ _ _ _
        have I5 : RIts w5 (w.heap.size + 3) A5 (j + 1) c5 (l.take (j + 1)) := ⟨by rw [HTS.out, flat_append]; simpa [flat] using hown5⟩
        have I6 : RIts (w5.setCell ⟨w.heap.size + 1 + 1, 5, none⟩ (.slice A5 (j + 1) c5)) (w.heap.size + 3) A5 (j + 1) c5 (l.take (j + 1)) := ⟨I5.own.kept hG6 (.inr (fun e => I5.far B5 (by decide) e.symm))⟩
        have b5 := bgrown (bdrew (balloc HB.out _)) hG5 (fun k hk => by have := (HI.out.own.lt k hk).1; omega)
        have b6 := bgrown b5 hG6 (fun k hk => by injection hk with hk; omega)
        refine hK.out _ _ (hS1.out _ b5 B15) (fun hH2 => ?_)
        clear hK K hHeld
        have hHeld := hH2
        clear hH2
        try simp only [Act.put, List.setIfInBounds_toArray, List.set_cons_zero, List.set_cons_succ]
        have HH := Lib.hid (And.intro B16 (And.intro B26 (And.intro B36 (And.intro I6 b6))))
        clear B15 B25 B16 B26 B36 hG6 I5 I6 b5 b6 hG5 hown5 hn1 B5
        refine take_one (i := 23) (v := ?_) rfl (by kernel_rfl) (by kernel_rfl) (by kernel_rfl) (by rfl) hHeld ?_ (fun _ _ _ h => h) ?_
        rotate_left
        · (intro w hSw; (try dsimp only at hSw); go_simp; try with_reducible rfl)
        try simp only [Act.put, List.setIfInBounds_toArray, List.set_cons_zero, List.set_cons_succ]
        refine wpAnyH_ready (rs := [24]) (by kernel_rfl) (by simp) ?_
        refine AllReadyH.cons rfl (fun K hK => ?_) AllReadyH.nil
        go_simp
        refine hK.out _ _ (hS1.out _ HH.out.2.2.2.2 HH.out.1) (fun hH2 => ?_)
        clear hK K hHeld
        have hHeld := hH2
        clear hH2
        try simp only [Act.put, List.setIfInBounds_toArray, List.set_cons_zero, List.set_cons_succ]
        refine wpAnyH_done (by kernel_rfl) ?_ _
        generalize (w5.setCell ⟨w.heap.size + 1 + 1, 5, none⟩ (.slice A5 (j + 1) c5)) = w6 at *
        go_wp2_with fail
        exact ⟨⟨j + 1, A5, c5, by omega, by go_num, HH.out.1, HH.out.2.1, HH.out.2.2.1, HH.out.2.2.2.1, HH.out.2.2.2.2⟩, by simp [intOf]; omega⟩
    · obtain rfl : j = n := by omega
      have htk : l.take j = l := List.take_of_length_le (by omega)
      rw [htk] at hI
      have hj1 : ¬ (j : Int) < j := by omega
      have l2 := B2.lt
      have f2 := B2.frozen
      have k30 : _ = some (Value.int .i64 win) := B3.cellAt 0 rfl
      have k31 : _ = some (Value.bool closed) := B3.cellAt 1 rfl
      have k32 : _ = some (Value.string s1) := B3.cellAt 2 rfl
      have k33 : _ = some (Value.string s2) := B3.cellAt 3 rfl
      have k34 : _ = some (Value.int .u64 seen) := B3.cellAt 4 rfl
      have k2 := B2.cell
      have B6 := B2.set6 (.int .i64 win) (.bool closed) (.string s1) (.string s2) (.int .u64 seen) (.slice A' j c')
      have G6 := set6_grown wr (w.heap.size + 1) (.int .i64 win) (.bool closed) (.string s1) (.string s2) (.int .u64 seen) (.slice A' j c')
      have I6 : RIts (set6 wr (w.heap.size + 1) (.int .i64 win) (.bool closed) (.string s1) (.string s2) (.int .u64 seen) (.slice A' j c')) (w.heap.size + 3) A' j c' l := ⟨hI.own.kept G6 (.inr (fun e => hI.far B2 (by decide) e.symm))⟩
      have b6 := bgrown hB G6 (fun k hk => by injection hk with hk; omega)
      have CP := Lib.hid B6.cell
      have HH := Lib.hid (And.intro I6 b6)
      clear B6 G6 I6 b6 hI hB
      go_wp2_with fail
      change bodyPost _ _ _ _ _ (set6 wr (w.heap.size + 1) (.int .i64 win) (.bool closed) (.string s1) (.string s2) (.int .u64 seen) (.slice A' j c'))
      have CQ := CP.out
      generalize (set6 wr (w.heap.size + 1) (.int .i64 win) (.bool closed) (.string s1) (.string s2) (.int .u64 seen) (.slice A' j c')) = w9 at *
      refine bodyPost_ret (v := .agg #[.int .i64 win, .bool closed, .string s1, .string s2, .int .u64 seen, .slice A' j c']) (by simp [results, Tryz.results25, go_sem, CQ]) rfl ?_
      exact ⟨⟨A', c', rfl, HH.out.1⟩, HH.out.2⟩
end Go.Proofs.YtapiehddcdnadaaGreatDoor

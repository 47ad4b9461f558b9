/- The walk of TopPlays. -/
import Derived.Test.YtcbheekfdhklcaaTopPq
namespace Go.Proofs.Ytcbheekfdhklcaa
open Go.RowKit
set_option linter.unusedVariables false
set_option linter.unusedSimpArgs false

set_option maxRecDepth 100000 in
set_option maxHeartbeats 4000000 in
theorem topPlays_no (room : Int) (a : Option Addr) (n c : Nat) (cl : Int) (w : World) (hr : room < 1 ∨ 16 < room) :
    Calls Try.prog 8 #[.int .i64 room, .bool false, .slice a n c, .int .u8 cl] w fun e w' => e = .returned (.bool true) ∧ Below w.heap.size w w' := by
  have HN := Lib.hid (fun w => new_no room hr w)
  have HR := Lib.hid (fun w => rnew_no room hr w)
  clear hr
  go_enter Try.func8, Try.ntmps8
  go_wp2_with (first
    | (go_at_call 9; refine (examples_any w).mono ?_; rintro e w1 ⟨rfl, b1⟩)
    | (go_at_call 10; refine (HN.out _).mono ?_; rintro e w2 ⟨rfl, rfl⟩)
    | (go_at_call 16; refine (HR.out _).mono ?_; rintro e w3 ⟨rfl, rfl⟩))
  go_ret
  exact ⟨rfl, b1⟩

theorem take_one {P : Program} {ops : Array Oper} {Q : Exit → Act → World → Prop} {md : Region.Mode} {S : World → Prop} {i : Nat} {oi : Oper} {v : Value} {fuel : Nat} {listed : Array Bool} {a : Act} {w : World} (hi : ops[i]? = some oi)
    (hs : Region.noSelect ops = true) (hf : Region.free md ops listed i = true) (hr : (Region.ready md ops listed).contains i = true) (hw : Region.wanted oi (yielded ops a.tmps) = true) (hS : S w)
    (hy : ∀ w, S w → (execOp a.eval oi).run P w = .ok (.value v) w) (hQ : ∀ c a w, Q (.panic c) (a.put oi.dst v) w → Q (.panic c) a w)
    (h : wpAnyH P md ops Q S fuel (listed.setIfInBounds i true) (a.put oi.dst v) w) : wpAnyH P md ops Q S (fuel + 1) listed a w :=
  wpAnyH_take hi hs hf hr hQ (.inl ⟨hw, hy⟩) hS h
/-- A stronger condition from here on. -/
theorem wpAnyH_switch {P : Program} {ops : Array Oper} {Q : Exit → Act → World → Prop} {md : Region.Mode} {S S' : World → Prop} (hSS : ∀ w, S' w → S w) : ∀ (fuel : Nat) (listed : Array Bool) (a : Act) (w : World), wpAnyH P md ops Q S' fuel listed a w → wpAnyH P md ops Q S fuel listed a w
  | 0, _, _, _, h => h
  | fuel + 1, _, _, _, h => ⟨h.1, fun i hi => wpOp_mono (fun a' w' h' => ⟨hSS _ h'.1, wpAnyH_switch hSS fuel _ a' w' h'.2⟩) (h.2 i hi)⟩
theorem near_room (room : Int) (k : Nat) (hk : 1 ≤ k ∧ k ≤ 16) (h : (room.emod 18446744073709551616) % 16 + 1 = k) : wrap64 (1 + wrap64 ((IntKind.u64.wrap room).tmod 16)) = (k : Int) := by
  have e : IntKind.u64.wrap room = room.emod 18446744073709551616 := by simp [IntKind.wrap, IntKind.bits, IntKind.signed]; rfl
  have h0 : 0 ≤ room.emod 18446744073709551616 := Int.emod_nonneg _ (by omega)
  rw [e, Int.tmod_eq_emod_of_nonneg h0]
  generalize room.emod 18446744073709551616 = m at *
  unfold wrap64
  omega
set_option maxRecDepth 100000 in
set_option maxHeartbeats 4000000 in
theorem topPlays_try (room : Int) (k : Nat) (near : Bool) (a : Option Addr) (n c : Nat) (cl : Nat) (w : World) (hx : DeedsT w a n) (hcl : cl ≤ 255) (hk : 1 ≤ k ∧ k ≤ 16)
    (hr : near = false → room = k) (hr2 : near = true → (room.emod 18446744073709551616) % 16 + 1 = k) :
    Calls Try.prog 8 #[.int .i64 room, .bool near, .slice a n c, .int .u8 cl] w fun e w' => e = .returned (.bool true) ∧ Below w.heap.size w w' := by
  go_enter Try.func8, Try.ntmps8
  go_wp2_with fail
  refine (examples_any w).mono ?_
  rintro e w1 ⟨rfl, b1⟩
  go_upto_if 22 with fail
  go_cut [0] (fun v wx => v = .int .i64 (k : Int) ∧ wx = w1)
  case first =>
    cases near
    · have hr' := Lib.hid (hr rfl)
      clear hr hr2
      go_wp2_with fail
      go_meet
      exact ⟨by rw [hr'.out], rfl⟩
    · have hr' := Lib.hid (hr2 rfl)
      clear hr hr2
      go_wp2_with fail
      go_meet
      exact ⟨by rw [near_room room k hk hr'.out], rfl⟩
  case rest =>
    obtain ⟨rfl, rfl⟩ := hcut
    clear hr hr2
    go_upto_region 12 with (first
      | (go_at_call 10; refine (tm_new (W := w) (base := w.heap.size) k hk.1 hk.2 b1 (Nat.le_refl _)).mono ?_; rintro e w2 ⟨rfl, T2, b2⟩)
      | (go_at_call 16; refine (pr_new hk.1 hk.2 T2).mono ?_; rintro e w3 ⟨rfl, P3, b3⟩))
    clear T2 b3 b2 b1
    generalize wc.heap.size = g at *
    generalize w2.heap.size = h at *
    have hBI := Lib.hid (BackInv.nil k)
    go_wp2_with fail
    go_loopw [13] (fun i wr => ∃ (j s : Nat) (L : List It), j ≤ n ∧ j ≤ 100 ∧ i = .int .i64 j ∧ Hid (BackInv k s L) ∧ PR w w.heap.size g h k s s L L wr) (fun i _ => n - (intOf i).toNat)
    case atStart => exact ⟨0, 0, [], Nat.zero_le _, Nat.zero_le _, rfl, hBI, P3⟩
    case round =>
      clear P3 hBI
      obtain ⟨j, s, L, hjn, hj2, rfl, hBI, P⟩ := hrel
      by_cases hc : j < n ∧ j < 100
      · obtain ⟨b, off, rfl, hb, hcell⟩ := hx.at_ (by omega)
        obtain ⟨kd, by_, nm, x0, x1, x2, hkd, hby⟩ := hcell j hc.1
        have hbl := P.tm.below
        have e0 := (hbl.cell (p := ⟨b, off + j * 3, none⟩) hb).trans x0
        have e1 := (hbl.cell (p := ⟨b, off + j * 3 + 1, none⟩) hb).trans x1
        have e2 := (hbl.cell (p := ⟨b, off + j * 3 + 2, none⟩) hb).trans x2
        have c1 : (j : Int) < n := by omega
        have c2 : (j : Int) < 100 := by omega
        obtain ⟨bv, hbv, hbv2⟩ : ∃ bv : Nat, bv < 18446744073709551616 ∧ ((0 < kd % 8 ∧ ((by_ : Int) % 9) = (bv : Int)) ∨ (¬ 0 < kd % 8 ∧ by_ = bv)) := by
          by_cases h8 : 0 < kd % 8
          · exact ⟨by_ % 9, by omega, .inl ⟨h8, by omega⟩⟩
          · exact ⟨by_, hby, .inr ⟨h8, rfl⟩⟩
        obtain ⟨ae, hae⟩ : ∃ ae, addE s (dname kd nm) bv = ae := ⟨_, rfl⟩
        obtain ⟨s', hs'⟩ : ∃ s', stepS s (dname kd nm) bv = s' := ⟨_, rfl⟩
        obtain ⟨L', hL'⟩ : ∃ L', stepT k s L (dname kd nm) bv = L' := ⟨_, rfl⟩
        have hBI' : Hid (BackInv k s' L') := Lib.hid (by rw [← hs', ← hL']; exact hBI.out.step (by omega) _ _)
        have hB0 : Hid (BackInv k 0 []) := Lib.hid (BackInv.nil k)
        have HD : Hid (∀ W, Below w.heap.size w W → W.cell? ⟨b, off + j * 3, none⟩ = some (.int .u8 kd) ∧ W.cell? ⟨b, off + j * 3 + 1, none⟩ = some (.string nm) ∧ W.cell? ⟨b, off + j * 3 + 2, none⟩ = some (.int .u64 by_)) := Lib.hid (fun W B =>
          ⟨(B.cell (p := ⟨b, off + j * 3, none⟩) hb).trans x0, (B.cell (p := ⟨b, off + j * 3 + 1, none⟩) hb).trans x1, (B.cell (p := ⟨b, off + j * 3 + 2, none⟩) hb).trans x2⟩)
        have CN : Hid (∀ W s1 s2 L1 L2, PR w w.heap.size g h k s1 s2 L1 L2 W → Calls Try.prog 18 #[.agg #[.int .u8 kd, .string nm, .int .u64 by_]] W fun e w' => e = .returned (.string (dname kd nm)) ∧ PR w w.heap.size g h k s1 s2 L1 L2 w') := Lib.hid (fun W s1 s2 L1 L2 H => by
          refine (name_call kd nm by_ W hkd).mono ?_
          rintro e w' ⟨rfl, hL⟩
          exact ⟨rfl, H.step hL.below⟩)
        have C1 : Hid (∀ W, PR w w.heap.size g h k s s L L W → Calls Try.prog 11 #[.pointer (some ⟨g, 0, none⟩), .string (dname kd nm), .int .u64 bv] W fun e w' => e = .returned (.int .i64 ae) ∧ PR w w.heap.size g h k s' s L' L w') := Lib.hid (fun W H => by
          rw [← hae, ← hs', ← hL']; exact pr_any1 _ bv hbv H)
        have C2 : Hid (∀ W, PR w w.heap.size g h k s' s L' L W → Calls Try.prog 17 #[.pointer (some ⟨h, 0, none⟩), .string (dname kd nm), .int .u64 bv] W fun e w' => e = .returned (.int .i64 ae) ∧ PR w w.heap.size g h k s' s' L' L' w') := Lib.hid (fun W H => by
          rw [← hae, ← hs', ← hL']; rw [← hs', ← hL'] at H; exact pr_any2 _ bv hbv H)
        have C3 : Hid (∀ W, PR w w.heap.size g h k s' s' L' L' W → Calls Try.prog 13 #[.pointer (some ⟨g, 0, none⟩)] W fun e w' => e = .returned (.int .u64 s') ∧ w' = W) := Lib.hid (fun W H => tm_seen H.tm)
        obtain ⟨lt, hlt⟩ : ∃ lt, leastT k L' = lt := ⟨_, rfl⟩
        have C4 : Hid (∀ W, PR w w.heap.size g h k s' s' L' L' W → Calls Try.prog 14 #[.pointer (some ⟨g, 0, none⟩)] W fun e w' => e = .returned (.int .u64 lt) ∧ PR w w.heap.size g h k s' s' L' L' w') := Lib.hid (fun W H => by rw [← hlt]; exact pr_least1 H)
        have C5 : Hid (∀ W, PR w w.heap.size g h k s' s' L' L' W → Calls Try.prog 24 #[.pointer (some ⟨h, 0, none⟩)] W fun e w' => e = .returned (.int .u64 lt) ∧ PR w w.heap.size g h k s' s' L' L' w') := Lib.hid (fun W H => by rw [← hlt]; exact pr_least2 H)
        have C6 : Hid (∀ W, PR w w.heap.size g h k s' s' L' L' W → Calls Try.prog 15 #[.pointer (some ⟨g, 0, none⟩)] W fun e w' => e = .returned (.tuple #[]) ∧ PR w w.heap.size g h k 0 s' [] L' w') := Lib.hid (fun W H => pr_clear1 H)
        have C7 : Hid (∀ W, PR w w.heap.size g h k 0 s' [] L' W → Calls Try.prog 25 #[.pointer (some ⟨h, 0, none⟩)] W fun e w' => e = .returned (.tuple #[]) ∧ PR w w.heap.size g h k 0 0 [] [] w') := Lib.hid (fun W H => pr_clear2 H)
        have hP := P
        clear hcell x0 x1 x2 hlt hae hs' hL' hbl hby P hBI
        generalize dname kd nm = dn at *
        go_upto_if 73 with fail
        go_cut [14] from 52 to 116 (fun v wx => v = .int .u64 (bv : Int) ∧ wx = wr)
        case first =>
          rcases hbv2 with ⟨h8, h9⟩ | ⟨h8, rfl⟩
          · have h8' : (0 : Int) < (kd : Int) % 8 := by omega
            go_wp2_with fail
            go_meet
            exact ⟨by rw [h9], rfl⟩
          · have h8' : ¬ (0 : Int) < (kd : Int) % 8 := by omega
            go_wp2_with fail
            go_meet
            exact ⟨rfl, rfl⟩
        case rest =>
          obtain ⟨rfl, rfl⟩ := hcut
          clear hbv2
          go_upto_region 18 with fail
          refine wp_region_held_drew (S := (fun (w' : World) => w'.cell? ⟨b, off + j * 3, none⟩ = some (.int .u8 kd) ∧ w'.cell? ⟨b, off + j * 3 + 1, none⟩ = some (.string nm) ∧ w'.cell? ⟨b, off + j * 3 + 2, none⟩ = some (.int .u64 by_))) (by kernel_rfl) (HD.out _ (bdrew hP.tm.below)) (fun hHeld => ?_)
          refine take_one (i := 0) (v := ?_) rfl (by kernel_rfl) (by kernel_rfl) (by kernel_rfl) (by rfl) hHeld ?_ (fun _ _ _ h => h) ?_
          rotate_left
          · (intro w hSw; (try dsimp only at hSw); go_simp; try with_reducible rfl)
          try simp only [Act.put, List.setIfInBounds_toArray, List.set_cons_zero, List.set_cons_succ]
          refine take_one (i := 1) (v := ?_) rfl (by kernel_rfl) (by kernel_rfl) (by kernel_rfl) (by rfl) hHeld ?_ (fun _ _ _ h => h) ?_
          rotate_left
          · (intro w hSw; (try dsimp only at hSw); go_simp; try with_reducible rfl)
          try simp only [Act.put, List.setIfInBounds_toArray, List.set_cons_zero, List.set_cons_succ]
          refine take_one (i := 2) (v := ?_) rfl (by kernel_rfl) (by kernel_rfl) (by kernel_rfl) (by rfl) hHeld ?_ (fun _ _ _ h => h) ?_
          rotate_left
          · (intro w hSw; (try dsimp only at hSw); go_simp; try with_reducible rfl)
          try simp only [Act.put, List.setIfInBounds_toArray, List.set_cons_zero, List.set_cons_succ]
          refine take_one (i := 3) (v := ?_) rfl (by kernel_rfl) (by kernel_rfl) (by kernel_rfl) (by rfl) hHeld ?_ (fun _ _ _ h => h) ?_
          rotate_left
          · (intro w hSw; (try dsimp only at hSw); go_simp; try with_reducible rfl)
          try simp only [Act.put, List.setIfInBounds_toArray, List.set_cons_zero, List.set_cons_succ]
          refine take_one (i := 4) (v := ?_) rfl (by kernel_rfl) (by kernel_rfl) (by kernel_rfl) (by rfl) hHeld ?_ (fun _ _ _ h => h) ?_
          rotate_left
          · (intro w hSw; (try dsimp only at hSw); go_simp; try with_reducible rfl)
          try simp only [Act.put, List.setIfInBounds_toArray, List.set_cons_zero, List.set_cons_succ]
          refine take_one (i := 6) (v := ?_) rfl (by kernel_rfl) (by kernel_rfl) (by kernel_rfl) (by rfl) hHeld ?_ (fun _ _ _ h => h) ?_
          rotate_left
          · (intro w hSw; (try dsimp only at hSw); go_simp; try with_reducible rfl)
          try simp only [Act.put, List.setIfInBounds_toArray, List.set_cons_zero, List.set_cons_succ]
          refine take_one (i := 8) (v := ?_) rfl (by kernel_rfl) (by kernel_rfl) (by kernel_rfl) (by rfl) hHeld ?_ (fun _ _ _ h => h) ?_
          rotate_left
          · (intro w hSw; (try dsimp only at hSw); go_simp; try with_reducible rfl)
          try simp only [Act.put, List.setIfInBounds_toArray, List.set_cons_zero, List.set_cons_succ]
          refine take_one (i := 9) (v := ?_) rfl (by kernel_rfl) (by kernel_rfl) (by kernel_rfl) (by rfl) hHeld ?_ (fun _ _ _ h => h) ?_
          rotate_left
          · (intro w hSw; (try dsimp only at hSw); go_simp; try with_reducible rfl)
          try simp only [Act.put, List.setIfInBounds_toArray, List.set_cons_zero, List.set_cons_succ]
          refine take_one (i := 10) (v := ?_) rfl (by kernel_rfl) (by kernel_rfl) (by kernel_rfl) (by rfl) hHeld ?_ (fun _ _ _ h => h) ?_
          rotate_left
          · (intro w hSw; (try dsimp only at hSw); go_simp; try with_reducible rfl)
          try simp only [Act.put, List.setIfInBounds_toArray, List.set_cons_zero, List.set_cons_succ]
          refine take_one (i := 11) (v := ?_) rfl (by kernel_rfl) (by kernel_rfl) (by kernel_rfl) (by rfl) hHeld ?_ (fun _ _ _ h => h) ?_
          rotate_left
          · (intro w hSw; (try dsimp only at hSw); go_simp; try with_reducible rfl)
          try simp only [Act.put, List.setIfInBounds_toArray, List.set_cons_zero, List.set_cons_succ]
          refine take_one (i := 12) (v := ?_) rfl (by kernel_rfl) (by kernel_rfl) (by kernel_rfl) (by rfl) hHeld ?_ (fun _ _ _ h => h) ?_
          rotate_left
          · (intro w hSw; (try dsimp only at hSw); go_simp; try with_reducible rfl)
          try simp only [Act.put, List.setIfInBounds_toArray, List.set_cons_zero, List.set_cons_succ]
          refine take_one (i := 14) (v := ?_) rfl (by kernel_rfl) (by kernel_rfl) (by kernel_rfl) (by rfl) hHeld ?_ (fun _ _ _ h => h) ?_
          rotate_left
          · (intro w hSw; (try dsimp only at hSw); go_simp; try with_reducible rfl)
          try simp only [Act.put, List.setIfInBounds_toArray, List.set_cons_zero, List.set_cons_succ]
          refine wpAnyH_ready (rs := [5]) (by kernel_rfl) (by simp) ?_
          refine AllReadyH.cons rfl (fun K hK => ?_) AllReadyH.nil
          go_simp
          (go_at_call 18; ((with_reducible refine (CN.out _ s s L L ?_).mono ?_); (first | exact hP | exact hP.step (bdrew (Below.refl _ _))); rintro e wA ⟨rfl, h1⟩; replace hP := h1; clear h1 e0 e1 e2; obtain ⟨e0, e1, e2⟩ := HD.out _ hP.tm.below))
          refine hK.out _ _ (⟨e0, e1, e2⟩) (fun hH2 => ?_)
          clear hK K hHeld
          have hHeld := hH2
          clear hH2
          try simp only [Act.put, List.setIfInBounds_toArray, List.set_cons_zero, List.set_cons_succ]
          refine wpAnyH_ready (rs := [7]) (by kernel_rfl) (by simp) ?_
          refine AllReadyH.cons rfl (fun K hK => ?_) AllReadyH.nil
          go_simp
          (go_at_call 11; ((with_reducible refine (C1.out _ ?_).mono ?_); (first | exact hP | exact hP.step (bdrew (Below.refl _ _))); rintro e wA ⟨rfl, h1⟩; replace hP := h1; clear h1 e0 e1 e2; obtain ⟨e0, e1, e2⟩ := HD.out _ hP.tm.below))
          refine hK.out _ _ (⟨e0, e1, e2⟩) (fun hH2 => ?_)
          clear hK K hHeld
          have hHeld := hH2
          clear hH2
          try simp only [Act.put, List.setIfInBounds_toArray, List.set_cons_zero, List.set_cons_succ]
          refine wpAnyH_ready (rs := [13]) (by kernel_rfl) (by simp) ?_
          refine AllReadyH.cons rfl (fun K hK => ?_) AllReadyH.nil
          go_simp
          (go_at_call 18; ((with_reducible refine (CN.out _ s' s L' L ?_).mono ?_); (first | exact hP | exact hP.step (bdrew (Below.refl _ _))); rintro e wA ⟨rfl, h1⟩; replace hP := h1; clear h1 e0 e1 e2; obtain ⟨e0, e1, e2⟩ := HD.out _ hP.tm.below))
          refine hK.out _ _ (⟨e0, e1, e2⟩) (fun hH2 => ?_)
          clear hK K hHeld
          have hHeld := hH2
          clear hH2
          try simp only [Act.put, List.setIfInBounds_toArray, List.set_cons_zero, List.set_cons_succ]
          refine wpAnyH_ready (rs := [15]) (by kernel_rfl) (by simp) ?_
          refine AllReadyH.cons rfl (fun K hK => ?_) AllReadyH.nil
          go_simp
          (go_at_call 17; ((with_reducible refine (C2.out _ ?_).mono ?_); (first | exact hP | exact hP.step (bdrew (Below.refl _ _))); rintro e wA ⟨rfl, h1⟩; replace hP := h1; clear h1 e0 e1 e2; obtain ⟨e0, e1, e2⟩ := HD.out _ hP.tm.below; have hsn := (pr_seen hP).1))
          refine hK.out _ _ (⟨e0, e1, e2⟩) (fun hH2 => ?_)
          clear hK K hHeld
          have hHeld := hH2
          clear hH2
          try simp only [Act.put, List.setIfInBounds_toArray, List.set_cons_zero, List.set_cons_succ]
          refine wpAnyH_switch (S' := (fun (w' : World) => (w'.cell? ⟨b, off + j * 3, none⟩ = some (.int .u8 kd) ∧ w'.cell? ⟨b, off + j * 3 + 1, none⟩ = some (.string nm) ∧ w'.cell? ⟨b, off + j * 3 + 2, none⟩ = some (.int .u64 by_)) ∧ w'.cell? ⟨h, 2, none⟩ = some (.int .u64 s'))) (fun _ h => h.1) _ _ _ _ ?_
          clear hHeld
          have hHeld : (fun (w' : World) => (w'.cell? ⟨b, off + j * 3, none⟩ = some (.int .u8 kd) ∧ w'.cell? ⟨b, off + j * 3 + 1, none⟩ = some (.string nm) ∧ w'.cell? ⟨b, off + j * 3 + 2, none⟩ = some (.int .u64 by_)) ∧ w'.cell? ⟨h, 2, none⟩ = some (.int .u64 s')) _ := ⟨⟨e0, e1, e2⟩, hsn⟩
          refine take_one (i := 16) (v := ?_) rfl (by kernel_rfl) (by kernel_rfl) (by kernel_rfl) (by rfl) hHeld ?_ (fun _ _ _ h => h) ?_
          rotate_left
          · (intro w hSw; (try dsimp only at hSw); go_simp; try with_reducible rfl)
          try simp only [Act.put, List.setIfInBounds_toArray, List.set_cons_zero, List.set_cons_succ]
          refine take_one (i := 17) (v := ?_) rfl (by kernel_rfl) (by kernel_rfl) (by kernel_rfl) (by rfl) hHeld ?_ (fun _ _ _ h => h) ?_
          rotate_left
          · (intro w hSw; (try dsimp only at hSw); go_simp; try with_reducible rfl)
          try simp only [Act.put, List.setIfInBounds_toArray, List.set_cons_zero, List.set_cons_succ]
          refine take_one (i := 18) (v := ?_) rfl (by kernel_rfl) (by kernel_rfl) (by kernel_rfl) (by rfl) hHeld ?_ (fun _ _ _ h => h) ?_
          rotate_left
          · (intro w hSw; (try dsimp only at hSw); go_simp; try with_reducible rfl)
          try simp only [Act.put, List.setIfInBounds_toArray, List.set_cons_zero, List.set_cons_succ]
          refine take_one (i := 20) (v := ?_) rfl (by kernel_rfl) (by kernel_rfl) (by kernel_rfl) (by rfl) hHeld ?_ (fun _ _ _ h => h) ?_
          rotate_left
          · (intro w hSw; (try dsimp only at hSw); go_simp; try with_reducible rfl)
          try simp only [Act.put, List.setIfInBounds_toArray, List.set_cons_zero, List.set_cons_succ]
          refine take_one (i := 21) (v := ?_) rfl (by kernel_rfl) (by kernel_rfl) (by kernel_rfl) (by rfl) hHeld ?_ (fun _ _ _ h => h) ?_
          rotate_left
          · (intro w hSw; (try dsimp only at hSw); go_simp; try with_reducible rfl)
          try simp only [Act.put, List.setIfInBounds_toArray, List.set_cons_zero, List.set_cons_succ]
          refine take_one (i := 22) (v := ?_) rfl (by kernel_rfl) (by kernel_rfl) (by kernel_rfl) (by rfl) hHeld ?_ (fun _ _ _ h => h) ?_
          rotate_left
          · (intro w hSw; (try dsimp only at hSw); go_simp; try with_reducible rfl)
          try simp only [Act.put, List.setIfInBounds_toArray, List.set_cons_zero, List.set_cons_succ]
          refine take_one (i := 23) (v := ?_) rfl (by kernel_rfl) (by kernel_rfl) (by kernel_rfl) (by rfl) hHeld ?_ (fun _ _ _ h => h) ?_
          rotate_left
          · (intro w hSw; (try dsimp only at hSw); go_simp; try with_reducible rfl)
          try simp only [Act.put, List.setIfInBounds_toArray, List.set_cons_zero, List.set_cons_succ]
          refine wpAnyH_ready (rs := [19]) (by kernel_rfl) (by simp) ?_
          refine AllReadyH.cons rfl (fun K hK => ?_) AllReadyH.nil
          go_simp
          (go_at_call 13; ((with_reducible refine (C3.out _ ?_).mono ?_); (exact hP); rintro e wA ⟨rfl, h1⟩; subst h1))
          refine hK.out _ _ (⟨⟨e0, e1, e2⟩, hsn⟩) (fun hH2 => ?_)
          clear hK K hHeld
          have hHeld := hH2
          clear hH2
          try simp only [Act.put, List.setIfInBounds_toArray, List.set_cons_zero, List.set_cons_succ]
          refine take_one (i := 24) (v := ?_) rfl (by kernel_rfl) (by kernel_rfl) (by kernel_rfl) (by rfl) hHeld ?_ (fun _ _ _ h => h) ?_
          rotate_left
          · (intro w hSw; (try dsimp only at hSw); go_simp; try with_reducible rfl)
          try simp only [Act.put, List.setIfInBounds_toArray, List.set_cons_zero, List.set_cons_succ]
          refine take_one (i := 25) (v := ?_) rfl (by kernel_rfl) (by kernel_rfl) (by kernel_rfl) (by rfl) hHeld ?_ (fun _ _ _ h => h) ?_
          rotate_left
          · (intro w hSw; (try dsimp only at hSw); go_simp; try with_reducible rfl)
          try simp only [Act.put, List.setIfInBounds_toArray, List.set_cons_zero, List.set_cons_succ]
          refine take_one (i := 26) (v := ?_) rfl (by kernel_rfl) (by kernel_rfl) (by kernel_rfl) (by rfl) hHeld ?_ (fun _ _ _ h => h) ?_
          rotate_left
          · (intro w hSw; (try dsimp only at hSw); go_simp; try with_reducible rfl)
          try simp only [Act.put, List.setIfInBounds_toArray, List.set_cons_zero, List.set_cons_succ]
          refine take_one (i := 27) (v := ?_) rfl (by kernel_rfl) (by kernel_rfl) (by kernel_rfl) (by rfl) hHeld ?_ (fun _ _ _ h => h) ?_
          rotate_left
          · (intro w hSw; (try dsimp only at hSw); go_simp; try with_reducible rfl)
          try simp only [Act.put, List.setIfInBounds_toArray, List.set_cons_zero, List.set_cons_succ]
          refine take_one (i := 29) (v := ?_) rfl (by kernel_rfl) (by kernel_rfl) (by kernel_rfl) (by rfl) hHeld ?_ (fun _ _ _ h => h) ?_
          rotate_left
          · (intro w hSw; (try dsimp only at hSw); go_simp; try with_reducible rfl)
          try simp only [Act.put, List.setIfInBounds_toArray, List.set_cons_zero, List.set_cons_succ]
          refine wpAnyH_ready (rs := [28]) (by kernel_rfl) (by simp) ?_
          refine AllReadyH.cons rfl (fun K hK => ?_) AllReadyH.nil
          go_simp
          (go_at_call 14; ((with_reducible refine (C4.out _ ?_).mono ?_); (first | exact hP | exact hP.step (bdrew (Below.refl _ _))); rintro e wA ⟨rfl, h1⟩; replace hP := h1; clear h1 e0 e1 e2; obtain ⟨e0, e1, e2⟩ := HD.out _ hP.tm.below; clear hsn; have hsn := (pr_seen hP).1))
          refine hK.out _ _ (⟨⟨e0, e1, e2⟩, hsn⟩) (fun hH2 => ?_)
          clear hK K hHeld
          have hHeld := hH2
          clear hH2
          try simp only [Act.put, List.setIfInBounds_toArray, List.set_cons_zero, List.set_cons_succ]
          refine wpAnyH_ready (rs := [30]) (by kernel_rfl) (by simp) ?_
          refine AllReadyH.cons rfl (fun K hK => ?_) AllReadyH.nil
          go_simp
          (go_at_call 24; ((with_reducible refine (C5.out _ ?_).mono ?_); (first | exact hP | exact hP.step (bdrew (Below.refl _ _))); rintro e wA ⟨rfl, h1⟩; replace hP := h1; clear h1 e0 e1 e2; obtain ⟨e0, e1, e2⟩ := HD.out _ hP.tm.below; clear hsn; have hsn := (pr_seen hP).1))
          refine hK.out _ _ (⟨⟨e0, e1, e2⟩, hsn⟩) (fun hH2 => ?_)
          clear hK K hHeld
          have hHeld := hH2
          clear hH2
          try simp only [Act.put, List.setIfInBounds_toArray, List.set_cons_zero, List.set_cons_succ]
          refine take_one (i := 31) (v := ?_) rfl (by kernel_rfl) (by kernel_rfl) (by kernel_rfl) (by rfl) hHeld ?_ (fun _ _ _ h => h) ?_
          rotate_left
          · (intro w hSw; (try dsimp only at hSw); go_simp; try with_reducible rfl)
          try simp only [Act.put, List.setIfInBounds_toArray, List.set_cons_zero, List.set_cons_succ]
          refine take_one (i := 32) (v := ?_) rfl (by kernel_rfl) (by kernel_rfl) (by kernel_rfl) (by rfl) hHeld ?_ (fun _ _ _ h => h) ?_
          rotate_left
          · (intro w hSw; (try dsimp only at hSw); go_simp; try with_reducible rfl)
          try simp only [Act.put, List.setIfInBounds_toArray, List.set_cons_zero, List.set_cons_succ]
          refine wpAnyH_done (by kernel_rfl) ?_ _
          all_goals
            clear C1 C2 C3 C4 C5 CN HD e0 e1 e2
            by_cases hcc : j = cl
            · subst hcc
              go_wp2_with (first
                | (go_at_call 15; ((with_reducible refine (C6.out _ ?_).mono ?_); (exact hP); rintro e wA ⟨rfl, h1⟩; replace hP := h1; clear h1))
                | (go_at_call 25; ((with_reducible refine (C7.out _ ?_).mono ?_); (exact hP); rintro e wA ⟨rfl, h1⟩; replace hP := h1; clear h1)))
              exact ⟨⟨j + 1, 0, [], by omega, by omega, by go_num, hB0, hP⟩, by simp [intOf]; omega⟩
            · have hcc' : ((j : Int) == (cl : Int)) = false := by simp; omega
              go_wp2_with fail
              exact ⟨⟨j + 1, s', L', by omega, by omega, by go_num, hBI', hP⟩, by simp [intOf]; omega⟩
      · have hend : (¬ (j : Int) < n) ∨ ((j : Int) < n ∧ ¬ (j : Int) < 100) := by omega
        have hnd := P.tm.inv.nd
        have hR : Hid (∀ t, Told L t → RightP k s t) := Lib.hid (fun t hT => hBI.out.right P.tm.inv.sn hT)
        have HND := Lib.hid hnd
        clear hnd hBI hx hc
        rcases hend with c1 | ⟨c1, c2⟩
        all_goals
          go_wp2_with fail
          refine (pr_items1 P).mono ?_
          rintro e w4 ⟨A1, n1, d1, t1, rfl, hT1, hI1, h16, hn1, P4⟩
          go_wp2_with fail
          refine (pr_refs hI1 h16 hn1 P4).mono ?_
          rintro e w5 ⟨A2, d2, rfl, hn2, hR2, P5⟩
          clear hI1 P4 P
          go_wp2_with fail
          refine (pr_items2 hR2 hT1 P5).mono ?_
          rintro e w6 ⟨A3, d3, rfl, hn3, hR3, hR2', P6⟩
          clear hR2 P5
          go_wp2_with fail
          refine (pr_same hR2' hR3 h16 hn2 hn3 P6).mono ?_
          rintro e w7 ⟨rfl, P7⟩
          clear hR2' hR3 P6 hn1 hn2 hn3 h16 hT1
          go_wp2_with fail
          refine (tm_seen P7.tm).mono ?_
          rintro e w7' ⟨rfl, rfl⟩
          go_wp2_with fail
          refine (pr_items1 P7).mono ?_
          rintro e w8 ⟨A4, n4, d4, t4, rfl, hT4, hI4, h16, hn4, P8⟩
          clear P7
          have hRR := hR.out t4 hT4
          go_wp2_with fail
          refine (pr_of hI4 hT4 hRR P8).mono ?_
          rintro e w9 ⟨g2, rfl, T9, P9⟩
          clear hI4 P8 hRR hn4 h16
          go_wp2_with fail
          refine (pr_again hT4 HND.out T9 P9).mono ?_
          rintro e w10 ⟨A5, n5, d5, rfl, hI5, h16, hn5, P10⟩
          clear T9 P9
          go_wp2_with fail
          refine (pr_refs hI5 h16 hn5 P10).mono ?_
          rintro e w11 ⟨A6, d6, rfl, hn6, hR6, P11⟩
          clear hI5 P10
          go_wp2_with fail
          refine (pr_items2 hR6 hT4 P11).mono ?_
          rintro e w12 ⟨A7, d7, rfl, hn7, hR7, hR6', P12⟩
          clear P11 hR6
          go_wp2_with fail
          refine (pr_same hR6' hR7 h16 hn6 hn7 P12).mono ?_
          rintro e w13 ⟨rfl, P13⟩
          clear P12 hR6' hR7
          go_wp2_with (go_at_call 26; refine (tm_room P13.tm).mono ?_; rintro e w14 ⟨rfl, rfl⟩)
          go_ret
          exact ⟨ret_bool (by simp), P13.tm.below⟩
theorem topPlays_row (room : Int) (near : Bool) (a : Option Addr) (n c : Nat) (cl : Int) (w : World) (hroom : (Lit.int .i64 room).wf = true) (hx : DeedsT w a n) (hcl : (Lit.int .u8 cl).wf = true) :
    Calls Try.prog 8 #[.int .i64 room, .bool near, .slice a n c, .int .u8 cl] w fun e w' => e = .returned (.bool true) ∧ Below w.heap.size w w' := by
  have h1 := bounds_u8 hcl
  obtain ⟨q, rfl⟩ := Int.eq_ofNat_of_zero_le h1.1
  cases near with
  | true =>
    have h0 : 0 ≤ room.emod 18446744073709551616 := Int.emod_nonneg _ (by omega)
    exact topPlays_try room ((room.emod 18446744073709551616) % 16 + 1).toNat true a n c q w hx (by omega) (by omega) (fun h => by cases h) (fun _ => by omega)
  | false =>
    by_cases hr : room < 1 ∨ 16 < room
    · exact topPlays_no room a n c (q : Int) w hr
    · exact topPlays_try room room.toNat false a n c q w hx (by omega) (by omega) (fun _ => by omega) (fun h => by cases h)
end Go.Proofs.Ytcbheekfdhklcaa

/- A wish of its own: its tiers are new. -/
import Derived.Test.YtapiehddcdnadaaGreatDoorQuV
namespace Go.Proofs.YtapiehddcdnadaaGreatDoor
open Go.RowKit Go.WideShapes
set_option linter.unusedVariables false
set_option linter.unusedSimpArgs false
attribute [local go_sem ↓] Go.wp_at_zero Go.wp_at_succ

set_option maxRecDepth 100000 in
set_option maxHeartbeats 4000000 in
theorem wish_new (p : PolN) (ta : Option Addr) (tn tc : Nat) (a : Option Addr) (n c : Nat) (xs : List Int) (w : World) (hx : Ints .u16 w a n xs) (hn : n ≤ 9223372036854775807) :
    Calls Tryz.prog 6 #[wishV p ta tn tc true a n c] w fun e w' => ∃ A c', e = .returned (polV (wishP xs) A (wishT xs).length c') ∧ (∃ B, w.heap.size ≤ B ∧ Own .i64 2 w' B A (wishT xs).length c' (wishT xs)) ∧ Below w.heap.size w w' := by
  have hb := nI_bd hx
  have h0 := hb 0
  have h1 := hb 1
  have h2 := hb 2
  have h3 := hb 3
  have h4 := hb 4
  have h5 := hb 5
  have h6 := hb 6
  have h7 := hb 7
  have h8 := hb 8
  have h9 := hb 9
  have h10 := hb 10
  have h11 := hb 11
  have HB := Lib.hid hb
  clear hb
  have HN : Hid (∀ (i : Int) (W : World), 0 ≤ i → W.cell? ⟨w.heap.size, 12, none⟩ = some (.slice a n c) → Below w.heap.size w W → Calls Tryz.prog 27 #[.int .i64 i, .pointer (some ⟨w.heap.size, 0, none⟩)] W fun e w' => e = .returned (.int .i64 (nI xs i)) ∧ W = w') := Lib.hid (fun i W hi hc hbl => wishn_call _ i a n c xs W hi hn hc (hx.step hbl))
  clear hx
  unfold wishV
  go_enter Tryz.func6, Tryz.ntmps6
  go_upto_region 4 with fail
  have B0 := (Blk.new w 27 #[.int .i64 p.slots, .int .i64 p.low, .int .i64 p.high, .int .i64 p.top, .int .i64 p.sketch, .int .i64 p.fine, .int .i64 p.idle, .int .i64 p.window, .int .i64 p.late, .int .i64 p.future, .slice ta tn tc, .bool true, .slice a n c]).alloc (.cells #[.int .i64 0, .int .i64 0, .int .i64 0, .int .i64 0, .int .i64 0, .int .i64 0, .int .i64 0, .int .i64 0, .int .i64 0, .int .i64 0, .slice none 0 0] 24)
  have B1 := Blk.newAt (w := w.alloc (.cells #[.int .i64 p.slots, .int .i64 p.low, .int .i64 p.high, .int .i64 p.top, .int .i64 p.sketch, .int .i64 p.fine, .int .i64 p.idle, .int .i64 p.window, .int .i64 p.late, .int .i64 p.future, .slice ta tn tc, .bool true, .slice a n c] 27)) (g := w.heap.size + 1) (t := 24) (cs := #[.int .i64 0, .int .i64 0, .int .i64 0, .int .i64 0, .int .i64 0, .int .i64 0, .int .i64 0, .int .i64 0, .int .i64 0, .int .i64 0, .slice none 0 0]) (by simp)
  have b1 := balloc (balloc (Below.refl w.heap.size w) (.cells #[.int .i64 p.slots, .int .i64 p.low, .int .i64 p.high, .int .i64 p.top, .int .i64 p.sketch, .int .i64 p.fine, .int .i64 p.idle, .int .i64 p.window, .int .i64 p.late, .int .i64 p.future, .slice ta tn tc, .bool true, .slice a n c] 27)) (.cells #[.int .i64 0, .int .i64 0, .int .i64 0, .int .i64 0, .int .i64 0, .int .i64 0, .int .i64 0, .int .i64 0, .int .i64 0, .int .i64 0, .slice none 0 0] 24)
  have c12 : _ = some (Value.slice a n c) := B0.cellAt 12 rfl
  have z1 : ((w.alloc (.cells #[.int .i64 p.slots, .int .i64 p.low, .int .i64 p.high, .int .i64 p.top, .int .i64 p.sketch, .int .i64 p.fine, .int .i64 p.idle, .int .i64 p.window, .int .i64 p.late, .int .i64 p.future, .slice ta tn tc, .bool true, .slice a n c] 27)).alloc (.cells #[.int .i64 0, .int .i64 0, .int .i64 0, .int .i64 0, .int .i64 0, .int .i64 0, .int .i64 0, .int .i64 0, .int .i64 0, .int .i64 0, .slice none 0 0] 24)).heap.size = w.heap.size + 2 := by simp
  generalize ((w.alloc (.cells #[.int .i64 p.slots, .int .i64 p.low, .int .i64 p.high, .int .i64 p.top, .int .i64 p.sketch, .int .i64 p.fine, .int .i64 p.idle, .int .i64 p.window, .int .i64 p.late, .int .i64 p.future, .slice ta tn tc, .bool true, .slice a n c] 27)).alloc (.cells #[.int .i64 0, .int .i64 0, .int .i64 0, .int .i64 0, .int .i64 0, .int .i64 0, .int .i64 0, .int .i64 0, .int .i64 0, .int .i64 0, .slice none 0 0] 24)) = w1 at *
  have HC := Lib.hid c12
  have HB1 := Lib.hid b1
  clear c12 b1
  go_upto_region 5 with ((first | (go_at_call 27; ((with_reducible refine (HN.out _ w1 (by omega) HC.out HB1.out).mono ?_); rintro e w2 ⟨rfl, rfl⟩))))
  replace B0 := B0.alloc (.cells #[.int .i64 (1 + nI xs 0 % 20), .int .i64 0, .int .i64 (nI xs 1 % 40), .int .i64 (1 + nI xs 2 % 16), .int .i64 (4 + nI xs 3 % 7), .int .i64 (nI xs 4 % 5), .int .i64 (1 + nI xs 5 % 4), .int .i64 (1 + nI xs 6 % 40), .int .i64 (nI xs 7 % 30), .int .i64 (nI xs 8 % 10), .slice none 0 0] 24)
  replace B1 := B1.alloc (.cells #[.int .i64 (1 + nI xs 0 % 20), .int .i64 0, .int .i64 (nI xs 1 % 40), .int .i64 (1 + nI xs 2 % 16), .int .i64 (4 + nI xs 3 % 7), .int .i64 (nI xs 4 % 5), .int .i64 (1 + nI xs 5 % 4), .int .i64 (1 + nI xs 6 % 40), .int .i64 (nI xs 7 % 30), .int .i64 (nI xs 8 % 10), .slice none 0 0] 24)
  have B2 := Blk.newAt (w := w1) (g := w.heap.size + 2) (t := 24) (cs := #[.int .i64 (1 + nI xs 0 % 20), .int .i64 0, .int .i64 (nI xs 1 % 40), .int .i64 (1 + nI xs 2 % 16), .int .i64 (4 + nI xs 3 % 7), .int .i64 (nI xs 4 % 5), .int .i64 (1 + nI xs 5 % 4), .int .i64 (1 + nI xs 6 % 40), .int .i64 (nI xs 7 % 30), .int .i64 (nI xs 8 % 10), .slice none 0 0]) z1
  have b2 := balloc HB1.out (.cells #[.int .i64 (1 + nI xs 0 % 20), .int .i64 0, .int .i64 (nI xs 1 % 40), .int .i64 (1 + nI xs 2 % 16), .int .i64 (4 + nI xs 3 % 7), .int .i64 (nI xs 4 % 5), .int .i64 (1 + nI xs 5 % 4), .int .i64 (1 + nI xs 6 % 40), .int .i64 (nI xs 7 % 30), .int .i64 (nI xs 8 % 10), .slice none 0 0] 24)
  generalize (w1.alloc (.cells #[.int .i64 (1 + nI xs 0 % 20), .int .i64 0, .int .i64 (nI xs 1 % 40), .int .i64 (1 + nI xs 2 % 16), .int .i64 (4 + nI xs 3 % 7), .int .i64 (nI xs 4 % 5), .int .i64 (1 + nI xs 5 % 4), .int .i64 (1 + nI xs 6 % 40), .int .i64 (nI xs 7 % 30), .int .i64 (nI xs 8 % 10), .slice none 0 0] 24)) = w2 at *
  clear HC HB1 z1
  go_cut [4] from 5 (fun x wx => x = .pointer (some ⟨w.heap.size + 2, 0, none⟩) ∧ Blk wx (w.heap.size + 2) 24 #[.int .i64 (1 + nI xs 0 % 20), .int .i64 (nI xs 9 % (nI xs 1 % 40 + 1)), .int .i64 (nI xs 1 % 40), .int .i64 (1 + nI xs 2 % 16), .int .i64 (4 + nI xs 3 % 7), .int .i64 (nI xs 4 % 5), .int .i64 (1 + nI xs 5 % 4), .int .i64 (1 + nI xs 6 % 40), .int .i64 (nI xs 7 % 30), .int .i64 (nI xs 8 % 10), .slice none 0 0] ∧ Blk wx w.heap.size 27 #[.int .i64 p.slots, .int .i64 p.low, .int .i64 p.high, .int .i64 p.top, .int .i64 p.sketch, .int .i64 p.fine, .int .i64 p.idle, .int .i64 p.window, .int .i64 p.late, .int .i64 p.future, .slice ta tn tc, .bool true, .slice a n c] ∧ Blk wx (w.heap.size + 1) 24 #[.int .i64 0, .int .i64 0, .int .i64 0, .int .i64 0, .int .i64 0, .int .i64 0, .int .i64 0, .int .i64 0, .int .i64 0, .int .i64 0, .slice none 0 0] ∧ Below w.heap.size w wx)
  case first =>
    have k2 : _ = some (Value.int .i64 (nI xs 1 % 40)) := B2.cellAt 2 rfl
    have k1 : _ = some (Value.int .i64 0) := B2.cellAt 1 rfl
    have kf := B2.frozen
    have kl := B2.lt
    have C12 : Hid (w2.drew.cell? ⟨w.heap.size, 12, none⟩ = some (Value.slice a n c)) := Lib.hid (B0.drew.cellAt 12 rfl)
    have hi0 : 0 ≤ nI xs 1 % 40 ∧ nI xs 1 % 40 ≤ 39 := by omega
    have HP := Lib.hid (B2.put 1 (.int .i64 (nI xs 9 % (nI xs 1 % 40 + 1))))
    have H0 := Lib.hid B0
    have H1 := Lib.hid B1
    have Hb := Lib.hid b2
    clear B0 B1 B2 b2
    refine wp_region_still_tail 7 (by kernel_rfl) (by kernel_rfl) ?_
    simp only [List.take_succ_cons, List.take_zero, List.drop_succ_cons, List.drop_zero]
    have q1 : IntKind.i64.wrap (nI xs 1 % 40 + 1) = nI xs 1 % 40 + 1 := by simp [IntKind.wrap, IntKind.bits, IntKind.signed]; omega
    have q2 : ¬ nI xs 1 % 40 + 1 = 0 := by omega
    have q3 : (nI xs 9).tmod (nI xs 1 % 40 + 1) = nI xs 9 % (nI xs 1 % 40 + 1) := Int.tmod_eq_emod_of_nonneg h9.1
    still_step
    still_call ((HN.out 9 w2.drew (by omega) C12.out (bdrew Hb.out)).mono (fun e w' h => ⟨h.1, h.2.symm⟩))
    repeat still_step
    refine wpStill_nil ?_
    go_wp2_with fail
    go_meet
    refine ⟨rfl, ?_, ?_, ?_, ?_⟩
    · first | exact HP.out | exact HP.out.drew
    · first | exact (H0.out.drew.far (by simp) _) | exact (H0.out.far (by simp) _).drew
    · first | exact (H1.out.drew.far (by simp) _) | exact (H1.out.far (by simp) _).drew
    · first | exact (bset (bdrew Hb.out) (by simp) _) | exact bdrew (bset Hb.out (by simp) _)
  case rest =>
  obtain ⟨rfl, B2, B0, B1, b2⟩ := hcut
  have C12 : Hid (wc.cell? ⟨w.heap.size, 12, none⟩ = some (Value.slice a n c)) := Lib.hid (B0.cellAt 12 rfl)
  have Hb := Lib.hid b2
  have k10 : _ = some (Value.slice none 0 0) := B2.cellAt 10 rfl
  have kf := B2.frozen
  have kl := B2.lt
  clear b2
  go_upto_region 7 with ((first | (go_at_call 27; ((with_reducible refine (HN.out _ wc (by omega) C12.out Hb.out).mono ?_); rintro e w3 ⟨rfl, rfl⟩))))
  have k0w := hidwf (tiersTo xs 0) (fun x hx => tier_bd xs HB.out 0 (by omega) x hx)
  have hsz : w.heap.size + 3 ≤ wc.heap.size := by omega
  have HI : Own .i64 2 ((wc.setCell ⟨w.heap.size + 2, 10, none⟩ (.slice (some ⟨wc.heap.size, 0, none⟩) 1 1)).alloc (.cells #[.int .i64 (1 + nI xs 10 % 12)] 2)) (w.heap.size + 3) (some ⟨wc.heap.size, 0, none⟩) 1 1 (tiersTo xs 0) := by
    have h := World.ownsRow_lit (e := 2) (size := 1) (base := w.heap.size + 3) (wc.setCell ⟨w.heap.size + 2, 10, none⟩ (.slice (some ⟨wc.heap.size, 0, none⟩) 1 1)) #[.int .i64 (1 + nI xs 10 % 12)] 1 (by simpa [World.setCell] using hsz) (by simp [maxLen]) rfl
    have e : (wc.setCell ⟨w.heap.size + 2, 10, none⟩ (.slice (some ⟨wc.heap.size, 0, none⟩) 1 1)).heap.size = wc.heap.size := by simp [World.setCell]
    rw [e] at h
    exact ⟨h, k0w⟩
  have B2a := (B2.put 10 (.slice (some ⟨wc.heap.size, 0, none⟩) 1 1)).alloc (.cells #[.int .i64 (1 + nI xs 10 % 12)] 2)
  have B0a := (B0.far (p := ⟨w.heap.size + 2, 10, none⟩) (by simp) (.slice (some ⟨wc.heap.size, 0, none⟩) 1 1)).alloc (.cells #[.int .i64 (1 + nI xs 10 % 12)] 2)
  have B1a := (B1.far (p := ⟨w.heap.size + 2, 10, none⟩) (by simp) (.slice (some ⟨wc.heap.size, 0, none⟩) 1 1)).alloc (.cells #[.int .i64 (1 + nI xs 10 % 12)] 2)
  have b3 := balloc (bset Hb.out (p := ⟨w.heap.size + 2, 10, none⟩) (by simp) (.slice (some ⟨wc.heap.size, 0, none⟩) 1 1)) (.cells #[.int .i64 (1 + nI xs 10 % 12)] 2)
  generalize (wc.setCell ⟨w.heap.size + 2, 10, none⟩ (.slice (some ⟨wc.heap.size, 0, none⟩) 1 1)).alloc (.cells #[.int .i64 (1 + nI xs 10 % 12)] 2) = w3 at *
  generalize hA0 : (some ⟨wc.heap.size, 0, none⟩ : Option Addr) = A0 at *
  clear B0 B1 B2 Hb C12 k10 kf kl k0w hsz hA0
  obtain ⟨m, hm, hm2⟩ : ∃ m : Nat, nI xs 11 % 3 = (m : Int) ∧ m ≤ 2 := ⟨(nI xs 11 % 3).toNat, by omega, by omega⟩
  have HW : Hid (wishT xs = tiersTo xs m) := Lib.hid (by unfold wishT; rw [hm]; rfl)
  have HM := Lib.hid hm
  clear hm
  clear h0 h1 h2 h3 h4 h5 h6 h7 h8 h9 h10
  go_wp2_with fail
  go_loopw [5] (fun i wr => ∃ (k : Nat) (A : Option Addr) (c' : Nat), k ≤ m ∧ i = .int .i64 k ∧ Own .i64 2 wr (w.heap.size + 3) A (k + 1) c' (tiersTo xs k) ∧ Blk wr (w.heap.size + 2) 24 #[.int .i64 (1 + nI xs 0 % 20), .int .i64 (nI xs 9 % (nI xs 1 % 40 + 1)), .int .i64 (nI xs 1 % 40), .int .i64 (1 + nI xs 2 % 16), .int .i64 (4 + nI xs 3 % 7), .int .i64 (nI xs 4 % 5), .int .i64 (1 + nI xs 5 % 4), .int .i64 (1 + nI xs 6 % 40), .int .i64 (nI xs 7 % 30), .int .i64 (nI xs 8 % 10), .slice A (k + 1) c'] ∧ Blk wr w.heap.size 27 #[.int .i64 p.slots, .int .i64 p.low, .int .i64 p.high, .int .i64 p.top, .int .i64 p.sketch, .int .i64 p.fine, .int .i64 p.idle, .int .i64 p.window, .int .i64 p.late, .int .i64 p.future, .slice ta tn tc, .bool true, .slice a n c] ∧ Blk wr (w.heap.size + 1) 24 #[.int .i64 0, .int .i64 0, .int .i64 0, .int .i64 0, .int .i64 0, .int .i64 0, .int .i64 0, .int .i64 0, .int .i64 0, .int .i64 0, .slice none 0 0] ∧ Below w.heap.size w wr) (fun i _ => m - (intOf i).toNat)
  case atStart => exact ⟨0, A0, 1, Nat.zero_le _, rfl, HI, B2a, B0a, B1a, b3⟩
  case round =>
    clear HI B2a B0a B1a b3
    obtain ⟨k, A, c', hk, rfl, HI, B2, B0, B1, b3⟩ := hrel
    have hi11 : nI xs 11 % 3 = (m : Int) := HM.out
    have C12 : Hid (wr.cell? ⟨w.heap.size, 12, none⟩ = some (Value.slice a n c)) := Lib.hid (B0.cellAt 12 rfl)
    by_cases hlt : k < m
    · have h1 : (k : Int) < m := by omega
      go_upto_region 10 with ((first | (go_at_call 27; ((with_reducible refine (HN.out _ wr (by omega) C12.out b3).mono ?_); rintro e w4 ⟨rfl, rfl⟩))))
      have hkl := tiers_len xs k
      obtain ⟨r, hA⟩ : ∃ r, A = some ⟨r, 0, none⟩ := by
        rcases HI.own.2 with ⟨e1, e2⟩ | ⟨g, cap, cur, e1, _⟩
        · omega
        · injection e1 with h0 _ _
          exact ⟨g, h0⟩
      subst hA
      have ck := HI.ints.at_ (by omega)
      obtain ⟨b', off', he, _, hcell⟩ := ck
      have x0 := hcell k (by omega)
      obtain ⟨rfl, rfl⟩ : r = b' ∧ 0 = off' := by injection he with he; injection he with e1 e2 _; exact ⟨e1, e2⟩
      rw [Nat.zero_add] at x0
      have htb := tier_bd xs HB.out k (by omega) ((tiersTo xs k).getD k 0) (by rw [List.getD_eq_getElem?_getD, List.getElem?_eq_getElem (by omega)]; exact List.getElem_mem _)
      clear hcell he hkl
      have h12 := HB.out (12 + (k : Int))
      have HT : Hid (tiersTo xs (k + 1) = tiersTo xs k ++ [(tiersTo xs k).getD k 0 * (2 + nI xs (12 + (k : Int)) % 4)]) := Lib.hid rfl
      obtain ⟨v, hv⟩ : ∃ v, v = nI xs (12 + (k : Int)) := ⟨_, rfl⟩
      rw [← hv] at h12 HT
      have HC : Hid (∀ W : World, W.cell? ⟨w.heap.size, 12, none⟩ = some (.slice a n c) → Below w.heap.size w W → Calls Tryz.prog 27 #[.int .i64 (12 + (k : Int)), .pointer (some ⟨w.heap.size, 0, none⟩)] W fun e w' => e = .returned (.int .i64 v) ∧ W = w') := Lib.hid (fun W hc hbl => by rw [hv]; exact HN.out _ W (by omega) hc hbl)
      clear hv
      generalize (tiersTo xs k).getD k 0 = y at *
      have q0 : 0 ≤ v % 4 ∧ v % 4 ≤ 3 := by omega
      have q1 : v.tmod 4 = v % 4 := Int.tmod_eq_emod_of_nonneg h12.1
      generalize v % 4 = q at *
      have q2 : 1 ≤ y * (2 + q) ∧ y * (2 + q) ≤ 1500 := by
        have : q = 0 ∨ q = 1 ∨ q = 2 ∨ q = 3 := by omega
        rcases this with rfl | rfl | rfl | rfl <;> omega
      have q3 : IntKind.i64.wrap (2 + q) = 2 + q := by simp [IntKind.wrap, IntKind.bits, IntKind.signed]; omega
      have q4 : IntKind.i64.wrap (12 + (k : Int)) = 12 + (k : Int) := by simp [IntKind.wrap, IntKind.bits, IntKind.signed]; omega
      have q5 : IntKind.i64.wrap (y * (2 + q)) = y * (2 + q) := by simp [IntKind.wrap, IntKind.bits, IntKind.signed]; omega
      generalize hz : y * (2 + q) = z at *
      have k10 : _ = some (Value.slice (some ⟨r, 0, none⟩) (k + 1) c') := B2.cellAt 10 rfl
      have kf := B2.frozen
      have kl := B2.lt
      have hr := HI.lt r rfl
      have hcl := HI.le
      have HB0 := Lib.hid B0
      have HB1 := Lib.hid B1
      have HB2 := Lib.hid B2
      have HI' := Lib.hid HI
      have Hb3 := Lib.hid b3
      have HZ : Hid ((Lit.int .i64 z).wf = true) := Lib.hid (WalkArith.wf_i64 (by omega))
      have HSZ : Hid (w.heap.size + 3 ≤ (wr.alloc (.cells #[.int .i64 z] 2)).drew.heap.size) := Lib.hid (by simp [World.drew]; omega)
      have HNE : Hid (some (w.heap.size + 2) ≠ Value.ownBlock (.slice (some ⟨r, 0, none⟩) (k + 1) c')) := Lib.hid (fun e => by
        have e2 : some (w.heap.size + 2) = some r := e
        injection e2 with e2
        omega)
      have HNE0 : Hid (some w.heap.size ≠ Value.ownBlock (.slice (some ⟨r, 0, none⟩) (k + 1) c')) := Lib.hid (fun e => by
        have e2 : some w.heap.size = some r := e
        injection e2 with e2
        omega)
      have HNE1 : Hid (some (w.heap.size + 1) ≠ Value.ownBlock (.slice (some ⟨r, 0, none⟩) (k + 1) c')) := Lib.hid (fun e => by
        have e2 : some (w.heap.size + 1) = some r := e
        injection e2 with e2
        omega)
      have HGE : Hid (∀ q, Value.ownBlock (.slice (some ⟨r, 0, none⟩) (k + 1) c') = some q → w.heap.size ≤ q) := Lib.hid (fun q e => by
        have e2 : some r = some q := e
        injection e2 with e2
        omega)
      have hk0 : (0 : Int) ≤ (k : Int) := by omega
      have hk1 : (k : Int) < (k : Int) + 1 := by omega
      clear B0 B1 B2 HI b3 htb hi11 hlt
      obtain ⟨i0, hi0, hz0, hz1, hz2⟩ : ∃ i : TypeInfo, Tryz.prog.info? 2 = some i ∧ i.zero = some (.int .i64 0) ∧ i.size = 1 ∧ i.bytes = 8 := by
        cases hh : Tryz.prog.info? 2 with
        | none => have e := info_i64; rw [hh] at e; cases e
        | some i => have e := info_i64; rw [hh] at e; injection e with e; injection e with e1 e2; injection e2 with e2 e3; exact ⟨i, rfl, e1, e2, e3⟩
      have HINFO := Lib.hid (And.intro hi0 (And.intro hz0 (And.intro hz1 hz2)))
      clear hi0 hz0 hz1 hz2
      go_region_law (first
        | (refine step_app _ rfl (.tmp 66) (.tmp 79) 22 rfl 2 i0 8 .i64 Tryz.underlying22 HINFO.out.1 HINFO.out.2.1 HINFO.out.2.2.1 HINFO.out.2.2.2 (w.heap.size + 3) (some ⟨r, 0, none⟩) (k + 1) c' (tiersTo xs k) (HI'.out.step (bdrew (balloc (Below.refl _ _) _))) (by simp [Act.eval, Act.put]) (some ⟨wr.heap.size, 0, none⟩) 1 1 [z] (ints_one (Blk.new _ _ _).drew HZ.out) (by simp [Act.eval, Act.put]) (by omega) (by omega) HSZ.out ?_; intro A' c2 w1 hO hG hL; have BX := (HB2.out.alloc (.cells #[.int .i64 z] 2)).drew.grown hG HNE.out; have k10' : _ = some (Value.slice (some ⟨r, 0, none⟩) (k + 1) c') := BX.cellAt 10 rfl; have kf' := BX.frozen; have kl' := BX.lt)
        | (go_simp; go_at_call 27; refine (HC.out wr.drew ?_ ?_).mono ?_; (first | exact C12.out | exact HB0.out.drew.cellAt 12 rfl); (first | exact Hb3.out | exact bdrew Hb3.out); rintro e wA ⟨rfl, rfl⟩))
      all_goals
        have BXp := BX.put 10 (.slice A' (k + 1 + 1) c2)
        have B0p := ((HB0.out.alloc (.cells #[.int .i64 z] 2)).drew.grown hG HNE0.out).far (p := ⟨w.heap.size + 2, 10, none⟩) (by simp) (.slice A' (k + 1 + 1) c2)
        have B1p := ((HB1.out.alloc (.cells #[.int .i64 z] 2)).drew.grown hG HNE1.out).far (p := ⟨w.heap.size + 2, 10, none⟩) (by simp) (.slice A' (k + 1 + 1) c2)
        have hOp := hO.kept (only_setCell (p := ⟨w.heap.size + 2, 10, none⟩) (only_refl w1 (some (w.heap.size + 2))) (.inl rfl) (.slice A' (k + 1 + 1) c2)) (own_far (g := w.heap.size + 2) hO (by omega))
        have bp := bset (bgrown (bdrew (balloc Hb3.out (.cells #[.int .i64 z] 2))) hG HGE.out) (p := ⟨w.heap.size + 2, 10, none⟩) (by simp) (.slice A' (k + 1 + 1) c2)
        clear BX k10' kf' kl' hO hG hL k10 kf kl x0 q0 q1 q2 q3 q4 q5
        generalize (w1.setCell ⟨w.heap.size + 2, 10, none⟩ (.slice A' (k + 1 + 1) c2)) = w9 at *
        go_wp2_with fail
        exact ⟨⟨k + 1, A', c2, by omega, by go_num, by rw [HT.out]; exact hOp, BXp, B0p, B1p, bp⟩, by simp [intOf]; omega⟩
    · obtain rfl : k = m := by omega
      go_upto_region 11 with ((first | (go_at_call 27; ((with_reducible refine (HN.out _ wr (by omega) C12.out b3).mono ?_); rintro e w4 ⟨rfl, rfl⟩))))
      have C2 := B2.cell
      have L2 := B2.lt
      have C1 := B1.cell
      have F1 := B1.frozen
      have L1 := B1.lt
      have HI2 := Lib.hid HI
      clear HI B0
      go_wp2_with fail
      have BP := (((((((((((B1.put 0 (.int .i64 (1 + nI xs 0 % 20))).put 1 (.int .i64 (nI xs 9 % (nI xs 1 % 40 + 1)))).put 2 (.int .i64 (nI xs 1 % 40))).put 3 (.int .i64 (1 + nI xs 2 % 16))).put 4 (.int .i64 (4 + nI xs 3 % 7))).put 5 (.int .i64 (nI xs 4 % 5))).put 6 (.int .i64 (1 + nI xs 5 % 4))).put 7 (.int .i64 (1 + nI xs 6 % 40))).put 8 (.int .i64 (nI xs 7 % 30))).put 9 (.int .i64 (nI xs 8 % 10))).put 10 (.slice A (k + 1) c'))
      have hG : wr.grownBy (((((((((((wr.setCell ⟨w.heap.size + 1, 0, none⟩ (.int .i64 (1 + nI xs 0 % 20))).setCell ⟨w.heap.size + 1, 1, none⟩ (.int .i64 (nI xs 9 % (nI xs 1 % 40 + 1)))).setCell ⟨w.heap.size + 1, 2, none⟩ (.int .i64 (nI xs 1 % 40))).setCell ⟨w.heap.size + 1, 3, none⟩ (.int .i64 (1 + nI xs 2 % 16))).setCell ⟨w.heap.size + 1, 4, none⟩ (.int .i64 (4 + nI xs 3 % 7))).setCell ⟨w.heap.size + 1, 5, none⟩ (.int .i64 (nI xs 4 % 5))).setCell ⟨w.heap.size + 1, 6, none⟩ (.int .i64 (1 + nI xs 5 % 4))).setCell ⟨w.heap.size + 1, 7, none⟩ (.int .i64 (1 + nI xs 6 % 40))).setCell ⟨w.heap.size + 1, 8, none⟩ (.int .i64 (nI xs 7 % 30))).setCell ⟨w.heap.size + 1, 9, none⟩ (.int .i64 (nI xs 8 % 10))).setCell ⟨w.heap.size + 1, 10, none⟩ (.slice A (k + 1) c')) (some (w.heap.size + 1)) := by
        repeat refine only_setCell ?_ (.inl rfl) _
        exact only_refl _ _
      generalize (((((((((((wr.setCell ⟨w.heap.size + 1, 0, none⟩ (.int .i64 (1 + nI xs 0 % 20))).setCell ⟨w.heap.size + 1, 1, none⟩ (.int .i64 (nI xs 9 % (nI xs 1 % 40 + 1)))).setCell ⟨w.heap.size + 1, 2, none⟩ (.int .i64 (nI xs 1 % 40))).setCell ⟨w.heap.size + 1, 3, none⟩ (.int .i64 (1 + nI xs 2 % 16))).setCell ⟨w.heap.size + 1, 4, none⟩ (.int .i64 (4 + nI xs 3 % 7))).setCell ⟨w.heap.size + 1, 5, none⟩ (.int .i64 (nI xs 4 % 5))).setCell ⟨w.heap.size + 1, 6, none⟩ (.int .i64 (1 + nI xs 5 % 4))).setCell ⟨w.heap.size + 1, 7, none⟩ (.int .i64 (1 + nI xs 6 % 40))).setCell ⟨w.heap.size + 1, 8, none⟩ (.int .i64 (nI xs 7 % 30))).setCell ⟨w.heap.size + 1, 9, none⟩ (.int .i64 (nI xs 8 % 10))).setCell ⟨w.heap.size + 1, 10, none⟩ (.slice A (k + 1) c')) = w5 at *
      have CP := BP.cell
      have hlk := tiers_len xs k
      have HO := HI2.out.kept hG (by
        rcases hx : Value.ownBlock (.slice A (k + 1) c') with _ | g
        · exact .inl rfl
        · right
          have := (HI2.out.lt g hx).1
          intro e
          injection e with e
          omega)
      refine bodyPost_ret (v := .agg #[.int .i64 (1 + nI xs 0 % 20), .int .i64 (nI xs 9 % (nI xs 1 % 40 + 1)), .int .i64 (nI xs 1 % 40), .int .i64 (1 + nI xs 2 % 16), .int .i64 (4 + nI xs 3 % 7), .int .i64 (nI xs 4 % 5), .int .i64 (1 + nI xs 5 % 4), .int .i64 (1 + nI xs 6 % 40), .int .i64 (nI xs 7 % 30), .int .i64 (nI xs 8 % 10), .slice A (k + 1) c']) (by simp [results, Tryz.results6, go_sem, CP]) rfl ?_
      rw [HW.out, hlk]
      exact ⟨A, c', rfl, ⟨_, by omega, HO⟩, bgrown b3 hG (fun q hq => by injection hq with e; omega)⟩
end Go.Proofs.YtapiehddcdnadaaGreatDoor

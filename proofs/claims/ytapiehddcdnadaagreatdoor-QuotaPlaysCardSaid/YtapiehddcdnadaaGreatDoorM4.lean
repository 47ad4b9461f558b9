/- The document's sum of a text (of at most seven bytes). The two sums of a text of at most seven bytes are the same. -/
import Derived.Test.YtapiehddcdnadaaGreatDoorM3
import Derived.Deep.QuietTactic
import Derived.Laws.Bits64
namespace Go.Proofs.YtapiehddcdnadaaGreatDoor
open Go.RowKit
set_option linter.unusedVariables false
set_option linter.unusedSimpArgs false

theorem turn_any (x k : Int) (w : World) (h0 : 0 < k) (h1 : k < 64) : Calls Tryz.prog 95 #[.int .u64 x, .int .i64 k] w fun e w' => e = .returned (.int .u64 (rotI k x)) ∧ Below w.heap.size w w' := by
  obtain ⟨n, rfl⟩ : ∃ n : Nat, k = n := ⟨k.toNat, by omega⟩
  have HR : Hid (rotI (n : Int) x = bits .or .u64 (IntKind.u64.wrap (x * 2 ^ n)) (x / 2 ^ (64 - n))) := Lib.hid (by
    unfold rotI
    rw [Int.toNat_natCast]
    have : (64 - (n : Int)).toNat = 64 - n := by omega
    rw [this])
  generalize rotI (n : Int) x = R at *
  have e1 : min n 64 = n := by omega
  have e2 : IntKind.i64.wrap (64 - (n : Int)) = ((64 - n : Nat) : Int) := by simp [IntKind.wrap, IntKind.bits, IntKind.signed]; omega
  have e3 : min (64 - n) 64 = 64 - n := by omega
  have e4 : (0 : Int) ≤ ((64 - n : Nat) : Int) := by omega
  have e5 : (0 : Int) ≤ (n : Int) := by omega
  clear h0 h1
  go_enter Tryz.func95, Tryz.ntmps95
  go_upto_region 1 with fail
  go_quiet (fail)
  go_wp2_with fail
  go_ret
  exact ⟨ret_int HR.out.symm, bdrewN (Below.refl _ _) nq⟩
def Slot4 (w : World) (s : Sip) (e : Ending) (w' : World) : Prop := ∃ g, e = .returned (.slice (some ⟨g, 0, none⟩) 4 4) ∧ Blk w' g 31 s.cells ∧ Below w.heap.size w w' ∧ w.heap.size ≤ g
set_option maxRecDepth 100000 in
set_option maxHeartbeats 2000000 in
theorem round_ref (g : Nat) (s : Sip) (w : World) (hB : Blk w g 31 s.cells) : Calls Tryz.prog 83 #[.slice (some ⟨g, 0, none⟩) 4 4] w (Slot4 w s.round) := by
  obtain ⟨a, b, c, d⟩ := s
  replace hB : Blk w g 31 #[.int .u64 a, .int .u64 b, .int .u64 c, .int .u64 d] := hB
  have HP : Hid (∀ e w', Slot4 w (Sip.round ⟨a, b, c, d⟩) e w' ↔ ∃ g, e = .returned (.slice (some ⟨g, 0, none⟩) 4 4) ∧ Blk w' g 31 (Sip.round ⟨a, b, c, d⟩).cells ∧ Below w.heap.size w w' ∧ w.heap.size ≤ g) := Lib.hid (fun e w' => Iff.rfl)
  generalize hPP : Slot4 w (Sip.round ⟨a, b, c, d⟩) = PP at *
  clear hPP
  obtain ⟨a1, ha1⟩ : ∃ x, x = IntKind.u64.wrap (a + b) := ⟨_, rfl⟩
  obtain ⟨c1, hc1⟩ : ∃ x, x = IntKind.u64.wrap (c + d) := ⟨_, rfl⟩
  obtain ⟨b1, hb1⟩ : ∃ x, x = bits .xor .u64 (rotI 13 b) a1 := ⟨_, rfl⟩
  obtain ⟨d1, hd1⟩ : ∃ x, x = bits .xor .u64 (rotI 16 d) c1 := ⟨_, rfl⟩
  obtain ⟨a2, ha2⟩ : ∃ x, x = rotI 32 a1 := ⟨_, rfl⟩
  obtain ⟨c2, hc2⟩ : ∃ x, x = IntKind.u64.wrap (c1 + b1) := ⟨_, rfl⟩
  obtain ⟨a3, ha3⟩ : ∃ x, x = IntKind.u64.wrap (a2 + d1) := ⟨_, rfl⟩
  obtain ⟨b2, hb2⟩ : ∃ x, x = bits .xor .u64 (rotI 17 b1) c2 := ⟨_, rfl⟩
  obtain ⟨d2, hd2⟩ : ∃ x, x = bits .xor .u64 (rotI 21 d1) a3 := ⟨_, rfl⟩
  obtain ⟨c3, hc3⟩ : ∃ x, x = rotI 32 c2 := ⟨_, rfl⟩
  have HV : Hid ((Sip.round ⟨a, b, c, d⟩).cells = #[.int .u64 a3, .int .u64 b2, .int .u64 c3, .int .u64 d2]) := Lib.hid (by subst ha1 hc1 hb1 hd1 ha2 hc2 ha3 hb2 hd2 hc3; rfl)
  have T1 : Hid (∀ W, Calls Tryz.prog 95 #[.int .u64 b, .int .i64 13] W fun e w' => e = .returned (.int .u64 (rotI 13 b)) ∧ Below W.heap.size W w') := Lib.hid (fun W => turn_any b 13 W (by omega) (by omega))
  have T2 : Hid (∀ W, Calls Tryz.prog 95 #[.int .u64 d, .int .i64 16] W fun e w' => e = .returned (.int .u64 (rotI 16 d)) ∧ Below W.heap.size W w') := Lib.hid (fun W => turn_any d 16 W (by omega) (by omega))
  have T3 : Hid (∀ W, Calls Tryz.prog 95 #[.int .u64 a1, .int .i64 32] W fun e w' => e = .returned (.int .u64 a2) ∧ Below W.heap.size W w') := Lib.hid (fun W => by rw [ha2]; exact turn_any a1 32 W (by omega) (by omega))
  have T4 : Hid (∀ W, Calls Tryz.prog 95 #[.int .u64 b1, .int .i64 17] W fun e w' => e = .returned (.int .u64 (rotI 17 b1)) ∧ Below W.heap.size W w') := Lib.hid (fun W => turn_any b1 17 W (by omega) (by omega))
  have T5 : Hid (∀ W, Calls Tryz.prog 95 #[.int .u64 d1, .int .i64 21] W fun e w' => e = .returned (.int .u64 (rotI 21 d1)) ∧ Below W.heap.size W w') := Lib.hid (fun W => turn_any d1 21 W (by omega) (by omega))
  have T6 : Hid (∀ W, Calls Tryz.prog 95 #[.int .u64 c2, .int .i64 32] W fun e w' => e = .returned (.int .u64 c3) ∧ Below W.heap.size W w') := Lib.hid (fun W => by rw [hc3]; exact turn_any c2 32 W (by omega) (by omega))
  have k0 : _ = some (Value.int .u64 a) := hB.cellAt 0 rfl
  have k1 : _ = some (Value.int .u64 b) := hB.cellAt 1 rfl
  have k2 : _ = some (Value.int .u64 c) := hB.cellAt 2 rfl
  have k3 : _ = some (Value.int .u64 d) := hB.cellAt 3 rfl
  have kl := hB.lt
  have g1 : IntKind.u64.wrap (a + b) = a1 := ha1.symm
  have g2 : IntKind.u64.wrap (c + d) = c1 := hc1.symm
  have g3 : bits .xor .u64 (rotI 13 b) a1 = b1 := hb1.symm
  have g4 : bits .xor .u64 (rotI 16 d) c1 = d1 := hd1.symm
  have g5 : IntKind.u64.wrap (c1 + b1) = c2 := hc2.symm
  have g6 : IntKind.u64.wrap (a2 + d1) = a3 := ha3.symm
  have g7 : bits .xor .u64 (rotI 17 b1) c2 = b2 := hb2.symm
  have g8 : bits .xor .u64 (rotI 21 d1) a3 = d2 := hd2.symm
  clear ha1 hc1 hb1 hd1 ha2 hc2 ha3 hb2 hd2 hc3
  go_enter Tryz.func83, Tryz.ntmps83
  go_upto_region 1 with fail
  go_quiet (fail)
  have B1 := hB.drewN nq
  have b1' := bdrewN (Below.refl w.heap.size w) nq
  generalize w.drewN nq = w1 at *
  clear k0 k1 k2 k3 kl hB
  have k0 : _ = some (Value.int .u64 a) := B1.cellAt 0 rfl
  have k1 : _ = some (Value.int .u64 b) := B1.cellAt 1 rfl
  have k2 : _ = some (Value.int .u64 c) := B1.cellAt 2 rfl
  have k3 : _ = some (Value.int .u64 d) := B1.cellAt 3 rfl
  have kl := B1.lt
  go_upto_region 2 with fail
  clear nq
  go_quiet (fail)
  have B2 := B1.drewN nq
  have b2' := bdrewN b1' nq
  generalize w1.drewN nq = w2 at *
  clear k0 k1 k2 k3 kl B1 b1'
  have k1 : _ = some (Value.int .u64 b) := B2.cellAt 1 rfl
  have k3 : _ = some (Value.int .u64 d) := B2.cellAt 3 rfl
  have kl := B2.lt
  go_wp2_with fail
  refine (T1.out _).mono ?_
  rintro e w3 ⟨rfl, b3⟩
  have B3 := Blk.step b3 B2
  have b3' := bstep b3 b2'
  clear k1 k3 kl B2 b3 b2'
  have k3 : _ = some (Value.int .u64 d) := B3.cellAt 3 rfl
  have kl := B3.lt
  go_wp2_with fail
  refine (T2.out _).mono ?_
  rintro e w4 ⟨rfl, b4⟩
  have b4' := bstep b4 b3'
  clear k3 kl B3 b4 b3'
  go_wp2_with fail
  refine (T3.out _).mono ?_
  rintro e w5 ⟨rfl, b5⟩
  have b5' := bstep b5 b4'
  clear b5 b4'
  go_wp2_with fail
  refine (T4.out _).mono ?_
  rintro e w6 ⟨rfl, b6⟩
  have b6' := bstep b6 b5'
  clear b6 b5'
  go_wp2_with fail
  refine (T5.out _).mono ?_
  rintro e w7 ⟨rfl, b7⟩
  have b7' := bstep b7 b6'
  clear b7 b6'
  go_wp2_with fail
  refine (T6.out _).mono ?_
  rintro e w8 ⟨rfl, b8⟩
  have b8' := bstep b8 b7'
  clear b8 b7'
  go_wp2_with fail
  refine (HP.out _ _).2 ⟨w8.heap.size, rfl, ?_, balloc b8' _, b8'.size⟩
  rw [HV.out]
  exact Blk.new _ _ _
/-- A text's bytes as a word, from the k-th on (the lowest first). -/
def wordFrom (s : ByteArray) : Nat → Nat → Int
  | _, 0 => 0
  | k, n + 1 => bits .or .u64 (IntKind.u64.wrap (wordFrom s (k + 1) n * 256)) (IntKind.u64.wrap (byteI s k))
set_option maxHeartbeats 1000000 in
theorem word_ref (s : ByteArray) (w : World) (hs : s.size ≤ 7) : Calls Tryz.prog 82 #[.string s] w fun e w' => e = .returned (.int .u64 (wordFrom s 0 s.size)) ∧ w = w' := by
  have hsz : (s.size : Int) ≤ 7 := by omega
  go_enter Tryz.func82, Tryz.ntmps82
  go_wp2_with fail
  go_loop [3, 4] (fun m i => ∃ k : Nat, k ≤ s.size ∧ i = .int .i64 ((k : Int) - 1) ∧ m = .int .u64 (wordFrom s k (s.size - k))) (fun _ i => (intOf i + 1).toNat)
  case atStart => exact ⟨s.size, Nat.le_refl _, rfl, by rw [Nat.sub_self]; rfl⟩
  case round =>
    obtain ⟨k, hk, rfl, rfl⟩ := hrel
    by_cases h0 : 0 < k
    · obtain ⟨j, rfl⟩ : ∃ j, k = j + 1 := ⟨k - 1, by omega⟩
      have hW : Hid (wordFrom s j (s.size - j) = bits .or .u64 (IntKind.u64.wrap (wordFrom s (j + 1) (s.size - (j + 1)) * 256)) (IntKind.u64.wrap (byteI s j))) := Lib.hid (by
        have e : s.size - j = (s.size - (j + 1)) + 1 := by omega
        rw [e]; rfl)
      have hby := byteI_get s j (by omega)
      have e1 : ((j + 1 : Nat) : Int) - 1 = (j : Int) := by omega
      rw [e1]
      have h1 : (j : Int) < s.size := by omega
      clear e1
      generalize wordFrom s (j + 1) (s.size - (j + 1)) = x at *
      generalize byteI s j = y at *
      go_wp2_with fail
      exact ⟨⟨j, by omega, rfl, by rw [hW.out]⟩, by simp [intOf]⟩
    · obtain rfl : k = 0 := by omega
      go_wp2_with fail
      go_ret
      exact ⟨rfl, rfl⟩
set_option maxRecDepth 100000 in
set_option maxHeartbeats 2000000 in
theorem sum_ref (s : ByteArray) (w : World) (hs : s.size ≤ 7) : Calls Tryz.prog 63 #[.int .u64 0, .int .u64 0, .string s] w fun e w' => e = .returned (.int .u64 ((((sip0.last (wordFrom s 0 s.size) s.size).ff).rounds 4).all)) ∧ Below w.heap.size w w' := by
  have hsz : (s.size : Int) ≤ 7 := by omega
  have hW := Lib.hid (fun W => word_ref s W hs)
  obtain ⟨x, hx⟩ : ∃ x, x = wordFrom s 0 s.size := ⟨_, rfl⟩
  rw [← hx] at hW ⊢
  clear hx
  obtain ⟨m, hm⟩ : ∃ m, bits .or .u64 x (IntKind.u64.wrap ((s.size : Int) * 72057594037927936)) = m := ⟨_, rfl⟩
  have hwr : IntKind.u64.wrap ((s.size : Int) * 72057594037927936) = (s.size : Int) * 72057594037927936 := by simp [IntKind.wrap, IntKind.bits, IntKind.signed]; omega
  obtain ⟨S1, hS1⟩ : ∃ S, S = (sip0.mixD m).rounds 2 := ⟨_, rfl⟩
  obtain ⟨S2, hS2⟩ : ∃ S, S = ((S1.mixA m).ff).rounds 4 := ⟨_, rfl⟩
  have HR : Hid ((((sip0.last x s.size).ff).rounds 4).all = bits .xor .u64 (bits .xor .u64 (bits .xor .u64 S2.a S2.b) S2.c) S2.d) := Lib.hid (by rw [hS2, hS1, ← hm]; rfl)
  generalize (((sip0.last x s.size).ff).rounds 4).all = RR at *
  rw [hwr] at hm
  clear hwr
  have R1 := Lib.hid (fun g W h => round_ref g (sip0.mixD m) W h)
  have R2 := Lib.hid (fun g W h => round_ref g ((sip0.mixD m).rounds 1) W h)
  have R3 := Lib.hid (fun g W h => round_ref g ((S1.mixA m).ff) W h)
  have R4 := Lib.hid (fun g W h => round_ref g (((S1.mixA m).ff).rounds 1) W h)
  have R5 := Lib.hid (fun g W h => round_ref g (((S1.mixA m).ff).rounds 2) W h)
  have R6 := Lib.hid (fun g W h => round_ref g (((S1.mixA m).ff).rounds 3) W h)
  have HS1 := Lib.hid hS1
  have HS2 := Lib.hid hS2
  clear hS1 hS2
  have hsw : IntKind.u64.wrap (s.size : Int) = (s.size : Int) := by simp [IntKind.wrap, IntKind.bits, IntKind.signed]; omega
  go_enter Tryz.func63, Tryz.ntmps63
  go_wp2_with fail
  have B0 : Blk (w.alloc (.cells #[.int .u64 (bits .xor .u64 0 8317987319222330741), .int .u64 (bits .xor .u64 0 7237128888997146477), .int .u64 (bits .xor .u64 0 7816392313619706465), .int .u64 (bits .xor .u64 0 8387220255154660723)] 31)) w.heap.size 31 sip0.cells := Blk.new _ _ _
  have b0 := balloc (Below.refl w.heap.size w) (.cells #[.int .u64 (bits .xor .u64 0 8317987319222330741), .int .u64 (bits .xor .u64 0 7237128888997146477), .int .u64 (bits .xor .u64 0 7816392313619706465), .int .u64 (bits .xor .u64 0 8387220255154660723)] 31)
  generalize (w.alloc (.cells #[.int .u64 (bits .xor .u64 0 8317987319222330741), .int .u64 (bits .xor .u64 0 7237128888997146477), .int .u64 (bits .xor .u64 0 7816392313619706465), .int .u64 (bits .xor .u64 0 8387220255154660723)] 31)) = w1 at *
  go_loop [2, 7] (fun a b => a = .string s ∧ b = .slice (some ⟨w.heap.size, 0, none⟩) 4 4) (fun _ _ => 0)
  case atStart => exact ⟨rfl, rfl⟩
  case round =>
    obtain ⟨rfl, rfl⟩ := hrel
    have h8 : ¬ (8 : Int) ≤ (s.size : Int) := by omega
    go_wp2_with fail
    refine (hW.out w1).mono ?_
    rintro e w2 ⟨rfl, rfl⟩
    have k3 : _ = some (Value.int .u64 sip0.d) := B0.cellAt 3 rfl
    have kf := B0.frozen
    have kl := B0.lt
    go_upto_region 11 with fail
    have B1 : Blk (w1.setCell ⟨w.heap.size, 3, none⟩ (.int .u64 (bits .xor .u64 sip0.d m))) w.heap.size 31 (sip0.mixD m).cells := B0.put 3 _
    have b1 : Below w.heap.size w (w1.setCell ⟨w.heap.size, 3, none⟩ (.int .u64 (bits .xor .u64 sip0.d m))) := bset b0 (p := ⟨w.heap.size, 3, none⟩) (Nat.le_refl _) _
    generalize (w1.setCell ⟨w.heap.size, 3, none⟩ (.int .u64 (bits .xor .u64 sip0.d m))) = w3 at *
    clear k3 kf kl B0 b0
    go_wp2_with fail
    refine (R1.out w.heap.size w3 B1).mono ?_
    rintro e w4 ⟨g4, rfl, B4, b40, hxg4⟩
    have b4 := bstep b40 b1
    have hx4w : w.heap.size ≤ w4.heap.size := b4.size
    clear b40 B1 b1
    go_wp2_with fail
    refine (R2.out g4 w4 B4).mono ?_
    rintro e w5 ⟨g5, rfl, B5, b50, hxg5⟩
    have b5 := bstep b50 b4
    clear b50 B4 b4
    have e5 : (((sip0.mixD m).rounds 1).round).cells = S1.cells := by rw [HS1.out]; rfl
    rw [e5] at B5
    have hg5 : w.heap.size ≤ g5 := Nat.le_trans hx4w hxg5
    have k0 : _ = some (Value.int .u64 S1.a) := B5.cellAt 0 rfl
    have kf := B5.frozen
    have kl := B5.lt
    have B6 : Blk (w5.setCell ⟨g5, 0, none⟩ (.int .u64 (bits .xor .u64 S1.a m))) g5 31 (S1.mixA m).cells := B5.put 0 _
    have b6 : Below w.heap.size w (w5.setCell ⟨g5, 0, none⟩ (.int .u64 (bits .xor .u64 S1.a m))) := bset b5 (p := ⟨g5, 0, none⟩) hg5 _
    go_upto_region 13 with fail
    generalize (w5.setCell ⟨g5, 0, none⟩ (.int .u64 (bits .xor .u64 S1.a m))) = w6 at *
    clear k0 kf kl B5 b5 e5
    have k2 : _ = some (Value.int .u64 S1.c) := B6.cellAt 2 rfl
    have kf := B6.frozen
    have kl := B6.lt
    have B7 : Blk (w6.setCell ⟨g5, 2, none⟩ (.int .u64 (bits .xor .u64 S1.c 255))) g5 31 ((S1.mixA m).ff).cells := B6.put 2 _
    have b7 : Below w.heap.size w (w6.setCell ⟨g5, 2, none⟩ (.int .u64 (bits .xor .u64 S1.c 255))) := bset b6 (p := ⟨g5, 2, none⟩) hg5 _
    go_upto_region 14 with fail
    generalize (w6.setCell ⟨g5, 2, none⟩ (.int .u64 (bits .xor .u64 S1.c 255))) = w7 at *
    clear k2 kf kl B6 b6
    go_wp2_with fail
    refine (R3.out g5 w7 B7).mono ?_
    rintro e w8 ⟨g8, rfl, B8, b80, hxg8⟩
    have b8 := bstep b80 b7
    clear b80 B7 b7
    go_wp2_with fail
    refine (R4.out g8 w8 B8).mono ?_
    rintro e w9 ⟨g9, rfl, B9, b90, hxg9⟩
    have b9 := bstep b90 b8
    clear b90 B8 b8
    go_wp2_with fail
    refine (R5.out g9 w9 B9).mono ?_
    rintro e w10 ⟨g10, rfl, B10, b100, hxg10⟩
    have b10 := bstep b100 b9
    clear b100 B9 b9
    go_wp2_with fail
    refine (R6.out g10 w10 B10).mono ?_
    rintro e w11 ⟨g11, rfl, B11, b110, hxg11⟩
    have b11 := bstep b110 b10
    clear b110 B10 b10
    have e11 : ((((S1.mixA m).ff).rounds 3).round).cells = S2.cells := by rw [HS2.out]; rfl
    rw [e11] at B11
    have k0 : _ = some (Value.int .u64 S2.a) := B11.cellAt 0 rfl
    have k1 : _ = some (Value.int .u64 S2.b) := B11.cellAt 1 rfl
    have k2 : _ = some (Value.int .u64 S2.c) := B11.cellAt 2 rfl
    have k3 : _ = some (Value.int .u64 S2.d) := B11.cellAt 3 rfl
    have kl := B11.lt
    go_upto_region 15 with fail
    go_quiet (fail)
    go_wp2_with fail
    go_ret
    exact ⟨ret_int HR.out.symm, bdrewN b11 nq⟩
end Go.Proofs.YtapiehddcdnadaaGreatDoor
namespace Go.Proofs.YtapiehddcdnadaaGreatDoor
open Go.RowKit
set_option linter.unusedVariables false
set_option linter.unusedSimpArgs false

def byteN (s : ByteArray) (k : Nat) : Nat := (s.data.toList.getD k 0).toNat
theorem byteN_lt (s : ByteArray) (k : Nat) : byteN s k < 256 := by
  have := (s.data.toList.getD k 0).toNat_lt
  unfold byteN
  omega
theorem byteI_nat (s : ByteArray) (k : Nat) : byteI s k = (byteN s k : Nat) := rfl
/-- The word of n bytes from the k-th on. -/
def wordN (s : ByteArray) : Nat → Nat → Nat
  | _, 0 => 0
  | k, n + 1 => byteN s k + 256 * wordN s (k + 1) n
theorem wordN_lt (s : ByteArray) : ∀ n k, wordN s k n < 256 ^ n
  | 0, k => by simp [wordN]
  | n + 1, k => by
    have h1 := wordN_lt s n (k + 1)
    have h2 := byteN_lt s k
    unfold wordN
    rw [Nat.pow_succ]
    omega
theorem wordN_snoc (s : ByteArray) : ∀ n k, wordN s k (n + 1) = wordN s k n + byteN s (k + n) * 256 ^ n
  | 0, k => by simp [wordN]
  | n + 1, k => by
    have h := wordN_snoc s n (k + 1)
    have e : wordN s k (n + 1 + 1) = byteN s k + 256 * wordN s (k + 1) (n + 1) := rfl
    have e2 : wordN s k (n + 1) = byteN s k + 256 * wordN s (k + 1) n := rfl
    have e3 : k + 1 + n = k + (n + 1) := by omega
    rw [e, h, e2, e3, Nat.pow_succ, Nat.mul_add, ← Nat.add_assoc]
    congr 1
    rw [Nat.mul_comm 256, Nat.mul_assoc]
theorem or_add (a b i : Nat) (hb : b < 2 ^ i) : a * 2 ^ i ||| b = a * 2 ^ i + b := by
  have h := Nat.shiftLeft_add_eq_or_of_lt hb a
  rw [Nat.shiftLeft_eq] at h
  exact h.symm
theorem pow256 (n : Nat) : (256 : Nat) ^ n = 2 ^ (8 * n) := by rw [Nat.pow_mul]
theorem wrap_nat (a : Nat) (h : a < 18446744073709551616) : IntKind.u64.wrap (a : Int) = (a : Int) := by
  simp [IntKind.wrap, IntKind.bits, IntKind.signed]
  omega
theorem bits_or_nat (a b : Nat) (ha : a < 18446744073709551616) (hb : b < 18446744073709551616) : bits .or .u64 (a : Int) (b : Int) = ((a ||| b : Nat) : Int) := by
  have hx : a ||| b < 2 ^ 64 := Nat.or_lt_two_pow (by omega) (by omega)
  have h1 : (BitVec.ofInt 64 (a : Int)).toNat = a := by
    rw [BitVec.ofInt_natCast, BitVec.toNat_ofNat]; exact Nat.mod_eq_of_lt (by omega)
  have h2 : (BitVec.ofInt 64 (b : Int)).toNat = b := by
    rw [BitVec.ofInt_natCast, BitVec.toNat_ofNat]; exact Nat.mod_eq_of_lt (by omega)
  show IntKind.u64.wrap ((BitVec.ofInt 64 (a : Int) ||| BitVec.ofInt 64 (b : Int)).toNat : Int) = _
  rw [BitVec.toNat_or, h1, h2, IntKind.wrap_u64]
  omega
set_option maxRecDepth 100000 in
theorem wordFrom_eq (s : ByteArray) : ∀ n k, n ≤ 7 → wordFrom s k n = (wordN s k n : Nat)
  | 0, k, _ => rfl
  | n + 1, k, h => by
    have h1 := wordN_lt s n (k + 1)
    have h2 := byteN_lt s k
    have h3 : (256 : Nat) ^ n ≤ 256 ^ 6 := Nat.pow_le_pow_right (by omega) (by omega)
    have h4 : (256 : Nat) ^ 6 = 281474976710656 := by decide
    have e : wordFrom s k (n + 1) = bits .or .u64 (IntKind.u64.wrap (wordFrom s (k + 1) n * 256)) (IntKind.u64.wrap (byteI s k)) := rfl
    have e2 : ((wordN s (k + 1) n : Nat) : Int) * 256 = ((wordN s (k + 1) n * 2 ^ 8 : Nat) : Int) := by omega
    rw [e, wordFrom_eq s n (k + 1) (by omega), byteI_nat, e2, wrap_nat _ (by omega), wrap_nat _ (by omega), bits_or_nat _ _ (by omega) (by omega), or_add _ _ 8 (by omega)]
    have e3 : wordN s k (n + 1) = byteN s k + 256 * wordN s (k + 1) n := rfl
    rw [e3]
    generalize wordN s (k + 1) n = V at *
    generalize byteN s k = B at *
    have e9 : V * 2 ^ 8 + B = B + 256 * V := by omega
    rw [e9]
set_option maxRecDepth 100000 in
theorem sipTo_eq (s : ByteArray) (i : Sip) : ∀ n, n ≤ 7 → sipTo i s n = (i, ((wordN s 0 n : Nat) : Int))
  | 0, _ => rfl
  | n + 1, h => by
    have h1 := wordN_lt s n 0
    have h2 := byteN_lt s n
    have h3 : (256 : Nat) ^ n ≤ 256 ^ 6 := Nat.pow_le_pow_right (by omega) (by omega)
    have h4 : (256 : Nat) ^ 6 = 281474976710656 := by decide
    have hs := wordN_snoc s n 0
    rw [Nat.zero_add] at hs
    have e : sipTo i s (n + 1) = sumStep s n (sipTo i s n) := rfl
    rw [e, sipTo_eq s i n (by omega)]
    unfold sumStep
    have e8 : n % 8 = n := by omega
    rw [e8, if_neg (by omega), byteI_nat, wrap_nat _ (by omega), hs]
    have e2 : ((byteN s n : Nat) : Int) * 2 ^ (8 * n) = ((byteN s n * 2 ^ (8 * n) : Nat) : Int) := by
      rw [Int.natCast_mul, Int.natCast_pow]; rfl
    have e3 : byteN s n * 2 ^ (8 * n) < 18446744073709551616 := by
      rw [← pow256]
      have : byteN s n * 256 ^ n ≤ 255 * 256 ^ 6 := Nat.mul_le_mul (by omega) h3
      omega
    rw [e2, wrap_nat _ e3, bits_or_nat _ _ (by omega) e3, Nat.or_comm, or_add _ _ (8 * n) (by rw [← pow256]; exact h1), pow256, Nat.add_comm]
theorem sum_same (s : ByteArray) (hs : s.size ≤ 7) : (((sip0.last (wordFrom s 0 s.size) s.size).ff).rounds 4).all = ((sumN s : Nat) : Int) := by
  rw [(sumI_nat s).1]
  unfold sumI
  rw [sipTo_eq s sip0 s.size hs, wordFrom_eq s s.size 0 hs]
theorem sumR_call (s : ByteArray) (w : World) (hs : s.size ≤ 7) : Calls Tryz.prog 63 #[.int .u64 0, .int .u64 0, .string s] w fun e w' => e = .returned (.int .u64 (sumN s : Nat)) ∧ Below w.heap.size w w' := by
  rw [← sum_same s hs]
  exact sum_ref s w hs
end Go.Proofs.YtapiehddcdnadaaGreatDoor

/- sip's Sum. -/
import Derived.Test.YtapiehddcdnadaaDoorQuM
import Derived.OpenShut
namespace Go.Proofs.YtapiehddcdnadaaDoor
open Go.RowKit Go.WideShapes
set_option linter.unusedVariables false
set_option linter.unusedSimpArgs false
def byteI (s : ByteArray) (k : Nat) : Int := ((s.data.toList.getD k 0).toNat : Int)
theorem byteI_get (s : ByteArray) (k : Nat) (h : k < s.size) : (s[k].toNat : Int) = byteI s k := by
  unfold byteI
  rw [List.getD_eq_getElem?_getD, List.getElem?_eq_getElem (by simpa using h)]
  simp
  rfl
def sumStep (s : ByteArray) (k : Nat) (st : Sip × Int) : Sip × Int :=
  if k % 8 = 7 then (st.1.mix (bits .or .u64 st.2 (IntKind.u64.wrap (IntKind.u64.wrap (byteI s k) * 2 ^ (8 * (k % 8))))), 0)
  else (st.1, bits .or .u64 st.2 (IntKind.u64.wrap (IntKind.u64.wrap (byteI s k) * 2 ^ (8 * (k % 8)))))
def sipTo (i : Sip) (s : ByteArray) : Nat → Sip × Int
  | 0 => (i, 0)
  | k + 1 => sumStep s k (sipTo i s k)
def sip0 : Sip := Sip.mk (bits .xor .u64 0 8317987319222330741) (bits .xor .u64 0 7237128888997146477) (bits .xor .u64 0 7816392313619706465) (bits .xor .u64 0 8387220255154660723)
def Sip.last (S : Sip) (x : Int) (n : Nat) : Sip := S.mix (bits .or .u64 x (IntKind.u64.wrap ((n : Int) * 72057594037927936)))
def Sip.ff (S : Sip) : Sip := Sip.mk S.a S.b (bits .xor .u64 S.c 255) S.d
def Sip.all (S : Sip) : Int := bits .xor .u64 (bits .xor .u64 (bits .xor .u64 S.a S.b) S.c) S.d
/-- The sum of a text, of the key 0, 0. -/
def sumI (s : ByteArray) : Int := (((sipTo sip0 s s.size).1.last (sipTo sip0 s s.size).2 s.size).ff.rounds 4).all
def sumN (s : ByteArray) : Nat := (sumI s).toNat
theorem sumI_nat (s : ByteArray) : ((sumN s : Nat) : Int) = sumI s ∧ sumN s < 18446744073709551616 := by
  have h := bounds_u64 (wf_bits .xor .u64 (bits .xor .u64 (bits .xor .u64 (((sipTo sip0 s s.size).1.last (sipTo sip0 s s.size).2 s.size).ff.rounds 4).a (((sipTo sip0 s s.size).1.last (sipTo sip0 s s.size).2 s.size).ff.rounds 4).b) (((sipTo sip0 s s.size).1.last (sipTo sip0 s s.size).2 s.size).ff.rounds 4).c) (((sipTo sip0 s s.size).1.last (sipTo sip0 s s.size).2 s.size).ff.rounds 4).d)
  have h2 : 0 ≤ sumI s ∧ sumI s ≤ 18446744073709551615 := h
  unfold sumN
  omega
set_option maxRecDepth 100000 in
set_option maxHeartbeats 2000000 in
theorem sum_int (s : ByteArray) (w : World) (hs : s.size ≤ 9223372036854775806) : Calls Tryd.prog 23 #[.int .u64 0, .int .u64 0, .string s] w fun e w' => e = .returned (.int .u64 (sumI s)) ∧ Below w.heap.size w w' := by
  have HSUM : Hid (sumI s = (((sipTo sip0 s s.size).1.last (sipTo sip0 s s.size).2 s.size).ff.rounds 4).all) := Lib.hid rfl
  generalize sumI s = R at *
  go_enter Tryd.func23, Tryd.ntmps23
  go_wp2_with fail
  obtain ⟨i0, hi0⟩ : ∃ i0 : Sip, sip0 = i0 := ⟨_, rfl⟩
  rw [hi0] at HSUM
  have hB0 : Blk (w.alloc (.cells #[.int .u64 (bits .xor .u64 0 8317987319222330741), .int .u64 (bits .xor .u64 0 7237128888997146477), .int .u64 (bits .xor .u64 0 7816392313619706465), .int .u64 (bits .xor .u64 0 8387220255154660723)] 87)) w.heap.size 87 i0.cells := by rw [← hi0]; exact Blk.new _ _ _
  have hb0 := balloc (Below.refl w.heap.size w) (.cells #[.int .u64 (bits .xor .u64 0 8317987319222330741), .int .u64 (bits .xor .u64 0 7237128888997146477), .int .u64 (bits .xor .u64 0 7816392313619706465), .int .u64 (bits .xor .u64 0 8387220255154660723)] 87)
  clear hi0
  go_loopw [8, 21] (fun m i wr => ∃ (k : Nat), k ≤ s.size ∧ i = .int .i64 k ∧ m = .int .u64 (sipTo i0 s k).2 ∧ Blk wr w.heap.size 87 (sipTo i0 s k).1.cells ∧ Below w.heap.size w wr) (fun _ i _ => s.size - (intOf i).toNat)
  case atStart => exact ⟨0, Nat.zero_le _, rfl, rfl, hB0, hb0⟩
  case round =>
    obtain ⟨k, hk, rfl, rfl, hB, hb⟩ := hrel
    by_cases hlt : k < s.size
    · have h1 : (k : Int) < s.size := by omega
      obtain ⟨r, hr, hr8, hrk⟩ : ∃ r : Nat, (k : Int) % 8 = (r : Int) ∧ r < 8 ∧ k % 8 = r := ⟨k % 8, by omega, by omega, rfl⟩
      have hr9 : (r : Int) < 8 := by omega
      have HS : Hid (sipTo i0 s (k + 1) = sumStep s k (sipTo i0 s k)) := Lib.hid rfl
      have HU : Hid (sumStep s k (sipTo i0 s k) = if r = 7 then ((sipTo i0 s k).1.mix (bits .or .u64 (sipTo i0 s k).2 (IntKind.u64.wrap (IntKind.u64.wrap (byteI s k) * 2 ^ (8 * r)))), 0) else ((sipTo i0 s k).1, bits .or .u64 (sipTo i0 s k).2 (IntKind.u64.wrap (IntKind.u64.wrap (byteI s k) * 2 ^ (8 * r))))) := Lib.hid (by unfold sumStep; rw [hrk])
      have hby := byteI_get s k hlt
      clear hrk
      generalize byteI s k = y at *
      generalize (sipTo i0 s k) = p at *
      obtain ⟨S, x⟩ := p
      by_cases h7 : r = 7
      · have HN : Hid (sipTo i0 s (k + 1) = (S.mix (bits .or .u64 x (IntKind.u64.wrap (IntKind.u64.wrap y * 2 ^ (8 * r)))), 0)) := Lib.hid (by rw [HS.out, HU.out, if_pos h7])
        have h7' : ((r : Int) == 7) = true := by simp; omega
        clear HS HU h7
        go_wp2_with (go_at_call 39; refine (mix_call w.heap.size S _ _ hB).mono ?_; rintro e w2 ⟨rfl, hB2, hG2⟩)
        exact ⟨⟨k + 1, by omega, by go_num, by rw [HN.out], by rw [HN.out]; exact hB2, bgrown hb hG2 (fun q hq => by injection hq with e; omega)⟩, by simp [intOf]; omega⟩
      · have HN : Hid (sipTo i0 s (k + 1) = (S, bits .or .u64 x (IntKind.u64.wrap (IntKind.u64.wrap y * 2 ^ (8 * r))))) := Lib.hid (by rw [HS.out, HU.out, if_neg h7])
        have h7' : ((r : Int) == 7) = false := by simp; omega
        clear HS HU h7
        go_wp2_with fail
        exact ⟨⟨k + 1, by omega, by go_num, by rw [HN.out], by rw [HN.out]; exact hB, hb⟩, by simp [intOf]; omega⟩
    · obtain rfl : k = s.size := by omega
      generalize sipTo i0 s s.size = p at *
      obtain ⟨S, x⟩ := p
      replace HSUM : Hid (R = (((S.mix (bits .or .u64 x (IntKind.u64.wrap ((s.size : Int) * 72057594037927936)))).ff).rounds 4).all) := HSUM
      go_upto_region 12 with (go_at_call 39; refine (mix_call w.heap.size S _ _ hB).mono ?_; rintro e w2 ⟨rfl, hB2, hG2⟩)
      have hb2 := bgrown hb hG2 (fun q hq => by injection hq with e; omega)
      clear hB hb hG2 hB0 hb0
      generalize S.mix (bits .or .u64 x (IntKind.u64.wrap ((s.size : Int) * 72057594037927936))) = S2 at *
      have k2 : w2.cell? ⟨w.heap.size, 2, none⟩ = some (.int .u64 S2.c) := hB2.cellAt 2 rfl
      have kf := hB2.frozen
      have kl := hB2.lt
      have hB3 : Blk (w2.setCell ⟨w.heap.size, 2, none⟩ (.int .u64 (bits .xor .u64 S2.c 255))) w.heap.size 87 (Sip.mk S2.a S2.b (bits .xor .u64 S2.c 255) S2.d).cells := hB2.put 2 _
      have hb3 := bset hb2 (p := ⟨w.heap.size, 2, none⟩) (Nat.le_refl _) (.int .u64 (bits .xor .u64 S2.c 255))
      go_upto_region 13 with fail
      replace HSUM : Hid (R = ((Sip.mk S2.a S2.b (bits .xor .u64 S2.c 255) S2.d).rounds 4).all) := HSUM
      generalize Sip.mk S2.a S2.b (bits .xor .u64 S2.c 255) S2.d = S3 at *
      generalize (w2.setCell ⟨w.heap.size, 2, none⟩ (.int .u64 (bits .xor .u64 S2.c 255))) = w3 at *
      clear hB2 hb2 k2 kf kl
      go_wp2_with fail
      go_loopw [51] (fun i wr => ∃ k : Nat, k ≤ 4 ∧ i = .int .i64 k ∧ Blk wr w.heap.size 87 (S3.rounds k).cells ∧ Below w.heap.size w wr) (fun i _ => 4 - (intOf i).toNat)
      case atStart => exact ⟨0, by omega, rfl, hB3, hb3⟩
      case round =>
        clear hB3 hb3
        obtain ⟨k, hk, rfl, hB, hb⟩ := hrel
        by_cases hlt : k < 4
        · have h1 : (k : Int) < 4 := by omega
          go_wp2_with (go_at_call 40; refine (round_call w.heap.size _ _ hB).mono ?_; rintro e w4 ⟨rfl, hB4, hG4⟩)
          exact ⟨⟨k + 1, by omega, by go_num, hB4, bgrown hb hG4 (fun q hq => by injection hq with e; omega)⟩, by simp [intOf]; omega⟩
        · obtain rfl : k = 4 := by omega
          generalize S3.rounds 4 = S4 at *
          have k0 : wr.cell? ⟨w.heap.size, 0, none⟩ = some (.int .u64 S4.a) := hB.cellAt 0 rfl
          have k1 : wr.cell? ⟨w.heap.size, 1, none⟩ = some (.int .u64 S4.b) := hB.cellAt 1 rfl
          have k2 : wr.cell? ⟨w.heap.size, 2, none⟩ = some (.int .u64 S4.c) := hB.cellAt 2 rfl
          have k3 : wr.cell? ⟨w.heap.size, 3, none⟩ = some (.int .u64 S4.d) := hB.cellAt 3 rfl
          have kl := hB.lt
          go_wp2_with fail
          go_ret
          exact ⟨ret_int HSUM.out.symm, hb⟩
theorem sum_call (s : ByteArray) (w : World) (hs : s.size ≤ 9223372036854775806) : Calls Tryd.prog 23 #[.int .u64 0, .int .u64 0, .string s] w fun e w' => e = .returned (.int .u64 (sumN s : Nat)) ∧ Below w.heap.size w w' := by
  rw [(sumI_nat s).1]
  exact sum_int s w hs
end Go.Proofs.YtapiehddcdnadaaDoor

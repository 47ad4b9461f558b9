/- The walk of GateOnly: it returns true, whatever it is given; what lay in memory stays. No condition. -/
import Derived.Test.YtdlnadlllgkleaaA
import Derived.Test.YtdlnadlllgkleaaRow
namespace Go.Proofs.Ytdlnadlllgkleaa
open Go.RowKit
set_option linter.unusedVariables false
set_option linter.unusedSimpArgs false
attribute [local go_sem high] eq24
attribute [local go_sem] fld24_0 fld24_1 fld24_2


set_option maxRecDepth 100000 in
set_option maxHeartbeats 4000000 in
theorem gateOnly_walk (lo hi : Int) (a : Option Addr) (len cap : Nat) (zs : List Int) (w : World) (hl : len ≤ 140737488351232)
    (hz : Ints .u8 w a len zs) :
    Calls Try.prog 4 #[.int .u8 lo, .int .u8 hi, .slice a len cap] w fun e w' => e = .returned (.bool true) ∧ Below w.heap.size w w' := by
  obtain ⟨l, hl1⟩ : ∃ l, l = min (IntKind.u64.wrap (lo.tmod 50)) (IntKind.u64.wrap (hi.tmod 50)) := ⟨_, rfl⟩
  obtain ⟨h, hh⟩ : ∃ h, IntKind.u64.wrap (hi.tmod 50) = h := ⟨_, rfl⟩
  have hnew : ∀ w, Calls Try.prog 8 #[.int .u64 (IntKind.u64.wrap (lo.tmod 50)), .int .u64 h] w fun e w' => e = .returned (.agg #[.bool false, .int .u64 l, .int .u64 h]) ∧ Below w.heap.size w w' := by
    rw [hl1, hh]; exact new_any _ _
  have hlh : l ≤ h := by omega
  have Hnew := Lib.hid hnew
  clear hnew hl1
  go_enter Try.func4, Try.ntmps4
  go_wp2_with fail
  refine (examples_any _).mono ?_
  rintro e w1 ⟨rfl, b1⟩
  go_wp2_with fail
  refine (Hnew.out _).mono ?_
  rintro e w2 ⟨rfl, b2⟩
  go_wp2_with fail
  have B0 := Blk.new w2 24 #[Value.bool false, Value.int IntKind.u64 l, Value.int IntKind.u64 h]
  have hB := balloc (bstep b2 (bstep b1 (Below.refl w.heap.size w))) (Obj.cells #[Value.bool false, Value.int IntKind.u64 l, Value.int IntKind.u64 h] 24)
  have hg : w.heap.size ≤ w2.heap.size := (bstep b2 (bstep b1 (Below.refl w.heap.size w))).size
  generalize w2.heap.size = G at *
  generalize w2.alloc (Obj.cells #[Value.bool false, Value.int IntKind.u64 l, Value.int IntKind.u64 h] 24) = w3 at *
  clear b1 b2
  go_loopw [9] (fun i wr => ∃ k : Nat, k ≤ len ∧ i = .int .i64 k ∧ Below w.heap.size w wr ∧ ∃ c : Bool, Blk wr G 24 #[.bool c, .int .u64 l, .int .u64 h]) (fun i _ => len - (intOf i).toNat)
  case atStart => exact ⟨0, Nat.zero_le _, rfl, hB, false, B0⟩
  case round =>
    obtain ⟨k, hk, rfl, hB, c, B⟩ := hrel
    have C := B.cell
    have F := B.frozen
    have L := B.lt
    by_cases hkl : k < len
    · by_cases hk40 : k < 40
      · obtain ⟨b, off, rfl, hbl, hc⟩ := (hz.step hB).at_ (by omega)
        have hck := hc k hkl
        have hv := bounds_u8 (hz.wf (zs.getD k 0) (by rw [List.getD_eq_getElem?_getD, List.getElem?_eq_getElem (by rw [hz.len]; exact hkl)]; exact List.getElem_mem _))
        generalize zs.getD k 0 = v at *
        clear hc
        obtain ⟨n, hn⟩ : ∃ n, IntKind.u64.wrap (v.tmod 64) = n := ⟨_, rfl⟩
        have hk0 : (0 : Int) ≤ k := by omega
        have hkl' : (k : Int) < len := by omega
        by_cases hv2 : 192 ≤ v
        · go_wp2_with fail
          refine (turn_any _ _ _ _ _).mono ?_
          rintro e w4 ⟨rfl, b4⟩
          have B1 := Blk.step b4 (B.alloc (.cells #[.bool c, .int .u64 l, .int .u64 h] 24))
          have O1 := Blk.step b4 (Blk.new wr 24 #[.bool c, .int .u64 l, .int .u64 h])
          have hB1 := bstep b4 (balloc hB (.cells #[.bool c, .int .u64 l, .int .u64 h] 24))
          clear C F L
          have C1 := B1.cell
          have F1 := B1.frozen
          have L1 := B1.lt
          have C2 := O1.cell
          have F2 := O1.frozen
          have L2 := O1.lt
          have hne : ¬ G = wr.heap.size := by have := B.lt; omega
          have hne2 : ¬ wr.heap.size = G := by omega
          cases c
          · go_wp2_with fail
            go_roundw
            case rel => exact ⟨k + 1, by omega, by go_num, bset (bset (bset hB1 hg _) hg _) hg _, _, ((B1.put 0 _).put 1 _).put 2 _⟩
            case measure => simp [intOf]; omega
          · go_wp2_with fail
            go_roundw
            case rel => exact ⟨k + 1, by omega, by go_num, bset (bset (bset hB1 hg _) hg _) hg _, _, ((B1.put 0 _).put 1 _).put 2 _⟩
            case measure => simp [intOf]; omega
        · go_wp2_with fail
          refine (see_any _ _ _ _ _).mono ?_
          rintro e w4 ⟨rfl, b4⟩
          have B1 := Blk.step b4 (B.alloc (.cells #[.bool c, .int .u64 l, .int .u64 h] 24))
          have O1 := Blk.step b4 (Blk.new wr 24 #[.bool c, .int .u64 l, .int .u64 h])
          have hB1 := bstep b4 (balloc hB (.cells #[.bool c, .int .u64 l, .int .u64 h] 24))
          clear C F L
          have C1 := B1.cell
          have F1 := B1.frozen
          have L1 := B1.lt
          have C2 := O1.cell
          have F2 := O1.frozen
          have L2 := O1.lt
          have hne : ¬ G = wr.heap.size := by have := B.lt; omega
          have hne2 : ¬ wr.heap.size = G := by omega
          cases c
          · go_wp2_with fail
            go_roundw
            case rel => exact ⟨k + 1, by omega, by go_num, bset (bset (bset hB1 hg _) hg _) hg _, _, ((B1.put 0 _).put 1 _).put 2 _⟩
            case measure => simp [intOf]; omega
          · go_wp2_with fail
            go_roundw
            case rel => exact ⟨k + 1, by omega, by go_num, bset (bset (bset hB1 hg _) hg _) hg _, _, ((B1.put 0 _).put 1 _).put 2 _⟩
            case measure => simp [intOf]; omega
      · go_wp2_with fail
        go_ret
        exact ⟨by simp, hB⟩
    · go_wp2_with fail
      go_ret
      exact ⟨by simp, hB⟩
theorem gateOnly_row (lo hi : Int) (a : Option Addr) (len cap : Nat) (zs : List Int) (w : World) (_ : (Lit.int .u8 lo).wf = true) (_ : (Lit.int .u8 hi).wf = true) (hz : Ints .u8 w a len zs) (_ : len ≤ cap) (hl : len * 1 ≤ 140737488351232) :
    Calls Try.prog 4 #[.int .u8 lo, .int .u8 hi, .slice a len cap] w fun e w' => e = .returned (.bool true) ∧ Below w.heap.size w w' := gateOnly_walk lo hi a len cap zs w (by omega) hz
end Go.Proofs.Ytdlnadlllgkleaa

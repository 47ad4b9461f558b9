/- The walk of TopOf. -/
import Derived.Test.YtcbheekfdhklcaaTopT1
namespace Go.Proofs.Ytcbheekfdhklcaa
open Go.RowKit
set_option linter.unusedVariables false
set_option linter.unusedSimpArgs false

set_option maxRecDepth 100000 in
set_option maxHeartbeats 4000000 in
theorem topOf_no (room : Int) (seen : Nat) (A : Option Addr) (n c : Nat) (l : List It) (a : Option Addr) (m d : Nat) (how : Nat) (at_ : Int) (w : World) (hs : seen < 18446744073709551616) (R : ItRow w A n l) (hnc : n ≤ c) (hn : n ≤ 4398046511103) (hbd : Bd l) (hx : DeedsT w a m) (hhow : how ≤ 255) :
    Calls Try.prog 6 #[.int .i64 room, .int .u64 seen, .slice A n c, .slice a m d, .bool false, .int .u8 how, .int .i64 at_] w fun e w' => e = .returned (.bool true) ∧ Below w.heap.size w w' := by
  have HBD := Lib.hid hbd
  clear hbd
  go_enter Try.func6, Try.ntmps6
  go_wp2_with fail
  refine (examples_any w).mono ?_
  rintro e w1 ⟨rfl, b1⟩
  go_upto_if 29 with fail
  go_cut [0, 1, 2] (fun v0 v1 v2 wx => ∃ (room : Int) (seen : Nat) (A : Option Addr) (n c : Nat) (l : List It), v0 = .int .i64 room ∧ v1 = .int .u64 seen ∧ v2 = .slice A n c ∧ seen < 18446744073709551616 ∧ ItRow wx A n l ∧ n ≤ c ∧ n ≤ 4398046511103 ∧ Hid (Bd l) ∧ Below w.heap.size w wx)
  case first =>
    clear hx
    go_wp2_with fail
    go_meet
    exact ⟨room, seen, A, n, c, l, rfl, rfl, rfl, hs, R.step b1, hnc, hn, HBD, b1⟩
  case rest =>
    clear HBD hn hnc R hs hx
    clear A n c l seen room
    obtain ⟨room, seen, A, n, c, l, rfl, rfl, rfl, hs, R, hnc, hn, HBD, hB⟩ := hcut
    by_cases hr : room < 1 ∨ 16 < room
    · have HN := Lib.hid (fun W v => of_room room (seen : Int) v hr W)
      have HR := Lib.hid (fun W v => rof_room room (seen : Int) v hr W)
      clear hr
      go_wp2_with (first
        | (go_at_call 20; refine (HN.out _ _).mono ?_; rintro e w2 ⟨rfl, rfl⟩)
        | (go_at_call 22; refine (refs_call A n c l _ R hnc hn).mono ?_; rintro e w3 ⟨⟨A2, c2, rfl, hI⟩, b3⟩)
        | (go_at_call 21; refine (HR.out _ _).mono ?_; rintro e w4 ⟨rfl, rfl⟩))
      go_ret
      exact ⟨rfl, bstep b3 hB⟩
    · obtain ⟨k, rfl⟩ := Int.eq_ofNat_of_zero_le (show 0 ≤ room by omega)
      have hk : 1 ≤ k ∧ k ≤ 16 := by omega
      clear hr
      have hbw := hB.size
      go_wp2_with fail
      refine (of_call w.heap.size k seen A n c l _ hbw hk R hnc hn hs HBD.out).mono ?_
      rintro e w2 ⟨hA, b2⟩
      have R2 := R.step b2
      by_cases hR : RightP k seen l
      · obtain ⟨A3, n3, c3, rfl, T3, _⟩ : ∃ A' n c', e = .returned (.tuple #[.pointer (some ⟨wc.heap.size, 0, none⟩), .int .i64 0]) ∧ Tp w2 w.heap.size wc.heap.size k seen A' n c' l ∧ (∀ q, Value.ownBlock (.slice A' n c') = some q → wc.heap.size ≤ q) := by
          rcases hA with ⟨_, h⟩ | ⟨h, _⟩
          · exact h
          · exact absurd hR h
        have INV : Inv k seen l := ⟨hR.sum, right_nodup hR, hR.len, hR.sn⟩
        have HR := Lib.hid hR
        have HI := Lib.hid INV
        clear hA hR INV R
        have hB2 := bstep b2 hB
        generalize wc.heap.size = g at *
        go_wp2_with fail
        refine (refs_call A n c l _ R2 hnc hn).mono ?_
        rintro e w3 ⟨⟨A2, c2, rfl, hI2⟩, b3⟩
        have T4 := T3.step b3
        have hB3 := bstep b3 hB2
        clear T3 R2
        go_wp2_with fail
        refine (rof_call w.heap.size k seen A2 n c2 l _ hB3.size hk hI2.itRow (rits_le hI2) hn hs HBD.out).mono ?_
        rintro e w5 ⟨hA, b5⟩
        obtain ⟨A6, n6, c6, rfl, R6⟩ : ∃ A' n c', e = .returned (.tuple #[.pointer (some ⟨w3.heap.size, 0, none⟩), .int .i64 0]) ∧ Rp w5 w.heap.size w3.heap.size k seen A' n c' l := by
          rcases hA with ⟨_, h⟩ | ⟨h, _⟩
          · exact h
          · exact absurd HR.out h
        have P : PR w w.heap.size g w3.heap.size k seen seen l l w5 := ⟨A3, n3, c3, A6, n6, c6, T4.step b5, R6, HI.out, HI.out, bstep b5 hB3, Nat.le_refl _⟩
        generalize w3.heap.size = h at *
        clear hA R6 T4 hB3 b5 b3 hI2
        go_wp2_with fail
        refine (pr_items1 P).mono ?_
        rintro e w6 ⟨A1, n1, d1, t1, rfl, hT1, hI1, h16, hn1, P4⟩
        go_wp2_with fail
        refine (pr_refs hI1 h16 hn1 P4).mono ?_
        rintro e w7 ⟨A2, d2, rfl, hn2, hR2, P5⟩
        clear hI1 P4 P
        go_wp2_with fail
        refine (pr_items2 hR2 hT1 P5).mono ?_
        rintro e w8 ⟨A3, d3, rfl, hn3, hR3, hR2', P6⟩
        clear hR2 P5
        go_wp2_with fail
        refine (pr_same hR2' hR3 h16 hn2 hn3 P6).mono ?_
        rintro e w9 ⟨rfl, P7⟩
        clear hR2' hR3 P6 hn1 hn2 hn3 h16 hT1
        go_wp2_with fail
        refine (tm_seen P7.tm).mono ?_
        rintro e w9' ⟨rfl, rfl⟩
        go_wp2_with fail
        refine (pr_least1 P7).mono ?_
        rintro e w10 ⟨rfl, P8⟩
        go_wp2_with fail
        refine (pr_least2 P8).mono ?_
        rintro e w11 ⟨rfl, P9⟩
        clear P7 P8
        go_wp2_with fail
        go_ret
        exact ⟨ret_bool (by simp), P9.tm.below⟩
      · have he : e = .returned (.tuple #[.pointer none, .int .i64 2]) := by
          rcases hA with ⟨h, _⟩ | ⟨_, h⟩
          · exact absurd h hR
          · exact h
        subst he
        have HR := Lib.hid hR
        clear hA hR R
        go_wp2_with fail
        refine (refs_call A n c l _ R2 hnc hn).mono ?_
        rintro e w3 ⟨⟨A2, c2, rfl, hI2⟩, b3⟩
        have hB3 := bstep b3 (bstep b2 hB)
        go_wp2_with fail
        refine (rof_call w.heap.size k seen A2 n c2 l _ hB3.size hk hI2.itRow (rits_le hI2) hn hs HBD.out).mono ?_
        rintro e w5 ⟨hA, b5⟩
        have he : e = .returned (.tuple #[.pointer none, .int .i64 2]) := by
          rcases hA with ⟨h, _⟩ | ⟨_, h⟩
          · exact absurd h HR.out
          · exact h
        subst he
        clear hA
        go_wp2_with fail
        go_ret
        exact ⟨rfl, bstep b5 hB3⟩
set_option maxRecDepth 100000 in
set_option maxHeartbeats 4000000 in
theorem topOf_few (room : Int) (seen : Nat) (A : Option Addr) (n c : Nat) (l : List It) (a : Option Addr) (m d : Nat) (how : Nat) (at_ : Int) (w : World) (hs : seen < 18446744073709551616) (R : ItRow w A n l) (hnc : n ≤ c) (hn : n ≤ 4398046511103) (hbd : Bd l) (hx : DeedsT w a m) (hhow : how ≤ 255) (hm : m ≤ 30) :
    Calls Try.prog 6 #[.int .i64 room, .int .u64 seen, .slice A n c, .slice a m d, .bool true, .int .u8 how, .int .i64 at_] w fun e w' => e = .returned (.bool true) ∧ Below w.heap.size w w' := by
  have HBD := Lib.hid hbd
  clear hbd
  go_enter Try.func6, Try.ntmps6
  go_wp2_with fail
  refine (examples_any w).mono ?_
  rintro e w1 ⟨rfl, b1⟩
  go_upto_if 29 with fail
  go_cut [0, 1, 2] (fun v0 v1 v2 wx => ∃ (room : Int) (seen : Nat) (A : Option Addr) (n c : Nat) (l : List It), v0 = .int .i64 room ∧ v1 = .int .u64 seen ∧ v2 = .slice A n c ∧ seen < 18446744073709551616 ∧ ItRow wx A n l ∧ n ≤ c ∧ n ≤ 4398046511103 ∧ Hid (Bd l) ∧ Below w.heap.size w wx)
  case first =>
    clear HBD hn hnc R hs
    have e1 : ∃ k : Nat, (1 ≤ k ∧ k ≤ 16) ∧ wrap64 (1 + wrap64 ((IntKind.u64.wrap room).tmod 6)) = (k : Int) := by
      have e : IntKind.u64.wrap room = room.emod 18446744073709551616 := by simp [IntKind.wrap, IntKind.bits, IntKind.signed]; rfl
      have h0 : 0 ≤ room.emod 18446744073709551616 := Int.emod_nonneg _ (by omega)
      rw [e, Int.tmod_eq_emod_of_nonneg h0]
      generalize room.emod 18446744073709551616 = q at *
      refine ⟨(1 + q % 6).toNat, by omega, ?_⟩
      unfold wrap64
      omega
    obtain ⟨k, hk, ek⟩ := e1
    have EK := Lib.hid ek
    clear ek
    go_upto_region 6 with fail
    rw [EK.out]
    clear EK
    go_wp2_with fail
    refine (rm_new (W := w) (base := w.heap.size) k hk.1 hk.2 b1 (Nat.le_refl _)).mono ?_
    rintro e w2 ⟨rfl, P2, b2⟩
    generalize w1.heap.size = h at *
    have hB0 := Lib.hid (BackInv.nil k)
    go_wp2_with fail
    go_loopw [17] (fun i wr => ∃ (j s : Nat) (L : List It), j ≤ m ∧ j ≤ 30 ∧ i = .int .i64 j ∧ Hid (BackInv k s L) ∧ RM w w.heap.size h k s L wr) (fun i _ => m - (intOf i).toNat)
    case atStart => exact ⟨0, 0, [], Nat.zero_le _, Nat.zero_le _, rfl, hB0, P2⟩
    case round =>
      clear P2 hB0
      obtain ⟨j, s, L, hjn, hj2, rfl, hBI, P⟩ := hrel
      by_cases hc : j < m ∧ j < 30
      · obtain ⟨b, off, rfl, hb, hcell⟩ := hx.at_ (by omega)
        obtain ⟨kd, by_, nm, x0, x1, x2, hkd, hby⟩ := hcell j hc.1
        have c1 : (j : Int) < m := by omega
        have c2 : (j : Int) < 30 := by omega
        have q2 : IntKind.u64.wrap (1 + (by_ : Int).tmod 5) = ((1 + by_ % 5 : Nat) : Int) := by
          rw [Int.tmod_eq_emod_of_nonneg (by omega)]
          simp [IntKind.wrap, IntKind.bits, IntKind.signed]; omega
        have hbv : 1 + by_ % 5 < 18446744073709551616 := by omega
        generalize hgb : 1 + by_ % 5 = bv at *
        clear hgb
        obtain ⟨s', hs'⟩ : ∃ s', stepS s (dname kd nm) bv = s' := ⟨_, rfl⟩
        obtain ⟨L', hL'⟩ : ∃ L', stepT k s L (dname kd nm) bv = L' := ⟨_, rfl⟩
        obtain ⟨ae, hae⟩ : ∃ ae, addE s (dname kd nm) bv = ae := ⟨_, rfl⟩
        have hBI' : Hid (BackInv k s' L') := Lib.hid (by rw [← hs', ← hL']; exact hBI.out.step (by omega) _ _)
        have HD : Hid (∀ W, Below w.heap.size w W → W.cell? ⟨b, off + j * 3, none⟩ = some (.int .u8 kd) ∧ W.cell? ⟨b, off + j * 3 + 1, none⟩ = some (.string nm) ∧ W.cell? ⟨b, off + j * 3 + 2, none⟩ = some (.int .u64 by_)) := Lib.hid (fun W B =>
          ⟨(B.cell (p := ⟨b, off + j * 3, none⟩) hb).trans x0, (B.cell (p := ⟨b, off + j * 3 + 1, none⟩) hb).trans x1, (B.cell (p := ⟨b, off + j * 3 + 2, none⟩) hb).trans x2⟩)
        have CN : Hid (∀ W, RM w w.heap.size h k s L W → Calls Try.prog 18 #[.agg #[.int .u8 kd, .string nm, .int .u64 by_]] W fun e w' => e = .returned (.string (dname kd nm)) ∧ RM w w.heap.size h k s L w') := Lib.hid (fun W H => by
          refine (name_call kd nm by_ W hkd).mono ?_
          rintro e w' ⟨rfl, hL⟩
          exact ⟨rfl, H.step hL.below⟩)
        have C1 : Hid (∀ W, RM w w.heap.size h k s L W → Calls Try.prog 17 #[.pointer (some ⟨h, 0, none⟩), .string (dname kd nm), .int .u64 bv] W fun e w' => e = .returned (.int .i64 ae) ∧ RM w w.heap.size h k s' L' w') := Lib.hid (fun W H => by
          rw [← hae, ← hs', ← hL']; exact rm_add _ bv hbv H)
        have hP := P
        clear hcell x0 x1 x2 hs' hL' hae hby P hBI
        generalize dname kd nm = dn at *
        go_upto_region 10 with fail
        go_region_held3 (fun (w' : World) => w'.cell? ⟨b, off + j * 3, none⟩ = some (.int .u8 kd) ∧ w'.cell? ⟨b, off + j * 3 + 1, none⟩ = some (.string nm) ∧ w'.cell? ⟨b, off + j * 3 + 2, none⟩ = some (.int .u64 by_))
          (first | exact HD.out _ hP.below | exact HD.out _ (bdrew hP.below))
          (first
            | (go_at_call 18; ((with_reducible refine (CN.out _ ?_).mono ?_); (first | exact hP | exact hP.step (bdrew (Below.refl _ _))); rintro e wA ⟨rfl, h1⟩; replace hP := h1; clear h1))
            | (go_at_call 17; ((with_reducible refine (C1.out _ ?_).mono ?_); (first | exact hP | exact hP.step (bdrew (Below.refl _ _))); rintro e wA ⟨rfl, h1⟩; replace hP := h1; clear h1)))
        all_goals
          go_wp2_with fail
          exact ⟨⟨j + 1, s', L', by omega, by omega, by go_num, hBI', hP⟩, by simp [intOf]; omega⟩
      · have c1 : ¬ (j : Int) < m := by omega
        clear hx hc
        have hsn := P.inv.sn
        obtain ⟨hc2, hlt⟩ := P.cell
        go_wp2_with fail
        refine (rm_items P).mono ?_
        rintro e w4 ⟨Ay, ny, cy, t, rfl, hT, h16, Ry, hny, P4⟩
        have hbt : Hid (∀ x ∈ t, x.many ≤ 4611686018427387904 ∧ x.over ≤ 4611686018427387904 ∧ x.name.size ≤ 64) := Lib.hid (fun x hx => by
          have hxL := hT.perm.subset hx
          have h1 := mem_le_sum hxL
          rw [P.inv.sum] at h1
          have h2 := hBI.out.st x hxL
          have h3 := hBI.out.sz x hxL
          exact ⟨by omega, by omega, h3⟩)
        have hB4 := P4.below
        have hlt4 := P4.bs
        clear P P4 hBI hT hc2 hlt
        obtain ⟨i0, hi0, hz0, hz1, hz2⟩ := info_parts info_item
        have hLT : Hid (t.length = ny) := Lib.hid Ry.len
        go_wp2_with fail
        go_loopw [2, 19] (fun out i wr => ∃ (q : Nat) (A' : Option Addr) (c' : Nat), q ≤ ny ∧ i = .int .i64 q ∧ out = .slice A' q c' ∧ Its wr w4.heap.size A' q c' (t.take q) ∧ Below w4.heap.size w4 wr) (fun _ i _ => ny - (intOf i).toNat)
        case atStart => exact ⟨0, none, 0, Nat.zero_le _, rfl, rfl, Its.nil, Below.refl _ _⟩
        case round =>
          obtain ⟨q, A', c', hq, rfl, rfl, hI, hB⟩ := hrel
          by_cases hqn : q < ny
          · obtain ⟨b, off, rfl, hbl, hcell⟩ := Ry.at_ (by omega)
            obtain ⟨x0, x1, x2⟩ := hcell q hqn
            have e0 := (hB.cell (p := ⟨b, off + q * 3, none⟩) hbl).trans x0
            have e1 := (hB.cell (p := ⟨b, off + q * 3 + 1, none⟩) hbl).trans x1
            have e2 := (hB.cell (p := ⟨b, off + q * 3 + 2, none⟩) hbl).trans x2
            have HTS := Lib.hid (take_snocI t q (by rw [hLT.out]; exact hqn))
            clear hcell x0 x1 x2
            generalize t.getD q default = X at *
            have hj1 : (q : Int) < ny := by omega
            have hbs := hB.size
            go_upto_region 17 with fail
            have hbr : b < wr.heap.size := Nat.lt_of_lt_of_le hbl hB.size
            have HB := Lib.hid hB
            have HI := Lib.hid hI
            clear hB hI
            go_region_law (refine step_appI rfl (.tmp 73) (.tmp 90) 31 rfl w4.heap.size 35 i0 _ 3 32 Try.underlying31 hi0 hz0 hz1 hz2 rfl (by omega) (.slice A' q c') q (flat (t.take q)) (by simp [Act.eval, Act.put]) ((HI.out.step (bdrew (balloc (Below.refl _ _) _))).own) ⟨wr.heap.size, 0, none⟩ 1 1 (encI X) (by simp [Act.eval, Act.put]) rfl (news_item (Blk.new wr _ _).drew) (by intro u hu; simp only [encI, List.mem_cons, List.not_mem_nil, or_false] at hu; rcases hu with rfl | rfl | rfl <;> rfl) (by simp only [maxLen]; omega) (by omega) (by simp; omega) ?_; intro v' w5 hown5 hG5; obtain ⟨A5, c5, rfl⟩ := own_form hown5)
            all_goals
              go_wp2_with fail
              refine ⟨⟨q + 1, A5, c5, by omega, by go_num, rfl, ⟨by rw [HTS.out, flat_append]; simpa [flat] using hown5⟩, ?_⟩, by simp [intOf]; omega⟩
              exact bgrown (bdrew (balloc HB.out _)) hG5 (fun k hk => (HI.out.own.lt k hk).1)
          · obtain rfl : q = ny := by omega
            have htk : t.take q = t := List.take_of_length_le (by rw [hLT.out]; omega)
            rw [htk] at hI
            have hB5 : Below w.heap.size w wr := hB4.trans (hB.mono hlt4)
            have hss : s < 18446744073709551616 := by omega
            have hss1 : s + 1 < 18446744073709551616 := by omega
            have hsr : IntKind.u64.wrap ((s : Int) + 1) = (s : Int) + 1 := by simp [IntKind.wrap, IntKind.bits, IntKind.signed]; omega
            clear htk hB hB4 Ry hsn
            have hbd : Hid (Bd t) := Lib.hid (fun x hx => by have := hbt.out x hx; exact ⟨by omega, by omega, by omega⟩)
            rcases Nat.eq_zero_or_pos q with h0 | h0
            · subst h0
              go_wp2_with fail
              go_meet
              exact ⟨k, s, A', 0, c', t, rfl, rfl, rfl, hss, hI.itRow, Nat.zero_le _, by omega, hbd, hB5⟩
            · obtain ⟨r, rfl, hr0, hr1, hr2, hcells⟩ := hI.row h0
              obtain ⟨kk, hkk, ekk⟩ : ∃ kk : Nat, kk < q ∧ wrap64 ((IntKind.u64.wrap at_).tmod (q : Int)) = (kk : Int) := by
                have h1 : 0 ≤ IntKind.u64.wrap at_ := by simp [IntKind.wrap, IntKind.bits, IntKind.signed]; omega
                rw [Int.tmod_eq_emod_of_nonneg h1]
                generalize IntKind.u64.wrap at_ = z at *
                have h2 := Int.emod_nonneg z (b := (q : Int)) (by omega)
                have h3 := Int.emod_lt_of_pos z (b := (q : Int)) (by omega)
                refine ⟨(z % (q : Int)).toNat, by omega, ?_⟩
                unfold wrap64
                omega
              obtain ⟨x0, x1, x2⟩ := hcells kk hkk
              obtain ⟨y0, y1, y2⟩ := hcells 0 h0
              rw [Nat.zero_mul] at y0 y1 y2
              rw [Nat.zero_add] at y1 y2
              have z0 := hI.own.frozenAt (kk * 3)
              have z1 := hI.own.frozenAt (kk * 3 + 1)
              have z2 := hI.own.frozenAt (kk * 3 + 2)
              have k1 : (kk : Int) < q := by omega
              have k2 : (0 : Int) < q := by omega
              have k3 : (q : Int) ≤ c' := by omega
              have hX := hbt.out (t.getD kk default) (by rw [it_get t kk (by rw [hLT.out]; exact hkk)]; exact List.getElem_mem _)
              have hY := hbt.out (t.getD 0 default) (by rw [it_get t 0 (by rw [hLT.out]; exact h0)]; exact List.getElem_mem _)
              have IM := Lib.hid (its_many hI kk hkk)
              have IO := Lib.hid (its_over hI kk hkk)
              have IN := Lib.hid (its_name hI kk hkk)
              have hBM : Hid (Bd (t.set kk ⟨(t.getD kk default).name, (t.getD kk default).many + 1, (t.getD kk default).over⟩)) := Lib.hid (hbd.out.set kk ⟨by simp only; omega, by simp only; omega, by simp only; omega⟩)
              have hBO : Hid (Bd (t.set kk ⟨(t.getD kk default).name, (t.getD kk default).many, (t.getD kk default).over + 1⟩)) := Lib.hid (hbd.out.set kk ⟨by simp only; omega, by simp only; omega, by simp only; omega⟩)
              have hBN : Hid (Bd (t.set kk ⟨(t.getD 0 default).name, (t.getD kk default).many, (t.getD kk default).over⟩)) := Lib.hid (hbd.out.set kk ⟨by simp only; omega, by simp only; omega, by simp only; omega⟩)
              have HCE := Lib.hid hcells
              clear hcells
              obtain ⟨X, hXe⟩ : ∃ X, t.getD kk default = X := ⟨_, rfl⟩
              obtain ⟨Y, hYe⟩ : ∃ Y, t.getD 0 default = Y := ⟨_, rfl⟩
              rw [hXe] at x0 x1 x2 hX IM IO IN hBM hBO hBN
              rw [hYe] at y0 y1 y2 hY hBN
              have HXE := Lib.hid hXe
              have HYE := Lib.hid hYe
              clear hXe hYe
              have qm : IntKind.u64.wrap ((X.many : Int) + 1) = (X.many : Int) + 1 := by simp [IntKind.wrap, IntKind.bits, IntKind.signed]; omega
              have qo : IntKind.u64.wrap ((X.over : Int) + 1) = (X.over : Int) + 1 := by simp [IntKind.wrap, IntKind.bits, IntKind.signed]; omega
              have hw := hB5.size
              have hrw : w.heap.size ≤ r := by omega
              have h8 : how % 8 = 0 ∨ how % 8 = 1 ∨ how % 8 = 2 ∨ how % 8 = 3 ∨ how % 8 = 4 ∨ how % 8 = 5 ∨ how % 8 = 6 ∨ how % 8 = 7 := by omega
              obtain ⟨hh, hhq, hhl⟩ : ∃ hh : Nat, (how : Int) % 8 = (hh : Int) ∧ how % 8 = hh := ⟨how % 8, by omega, rfl⟩
              rw [hhl] at h8
              clear hhl
              rcases h8 with rfl | rfl | rfl | rfl | rfl | rfl | rfl | rfl
              · go_wp2_with fail
                go_meet
                exact ⟨k, s, _, q, c', t, rfl, rfl, rfl, hss, hI.itRow, hr2, by omega, hbd, hB5⟩
              · go_wp2_with fail
                go_meet
                obtain ⟨I2, hG⟩ := IM.out (X.many + 1)
                exact ⟨k, s, _, q, c', _, rfl, rfl, rfl, hss, I2.itRow, hr2, by omega, hBM, bonly hB5 hG hrw⟩
              · go_wp2_with fail
                go_meet
                obtain ⟨I2, hG⟩ := IO.out (X.over + 1)
                exact ⟨k, s, _, q, c', _, rfl, rfl, rfl, hss, I2.itRow, hr2, by omega, hBO, bonly hB5 hG hrw⟩
              · go_wp2_with fail
                go_meet
                obtain ⟨I2, hG⟩ := IN.out Y.name
                exact ⟨k, s, _, q, c', _, rfl, rfl, rfl, hss, I2.itRow, hr2, by omega, hBN, bonly hB5 hG hrw⟩
              · go_wp2_with fail
                go_meet
                exact ⟨k, s + 1, _, q, c', t, rfl, rfl, rfl, hss1, hI.itRow, hr2, by omega, hbd, hB5⟩
              · obtain ⟨I3, hG3⟩ := its_put hI 0 h0 X
                rw [Nat.zero_mul, Nat.zero_add] at I3 hG3
                obtain ⟨r', hr', _, _, _, hc3⟩ := I3.row h0
                have hrr : r = r' := by
                  injection hr' with h1
                  injection h1
                subst hrr
                obtain ⟨c4, c5, c6⟩ := hc3 kk hkk
                have HP := Lib.hid (its_put I3 kk hkk Y)
                have HG3 := Lib.hid hG3
                have fz0 := hI.own.frozenAt 0
                have fz1 := hI.own.frozenAt 1
                have fz2 := hI.own.frozenAt 2
                clear hc3 hr' hG3
                generalize ((t.set 0 X).getD kk default) = Z at *
                have hBS : Hid (Bd ((t.set 0 X).set kk Y)) := Lib.hid ((hbd.out.set 0 ⟨by omega, by omega, by omega⟩).set kk ⟨by omega, by omega, by omega⟩)
                clear hBM hBO hBN IM IO IN I3
                go_upto_region 30 with fail
                go_region
                all_goals
                  go_wp2_with fail
                  go_meet
                  obtain ⟨I6, hG6⟩ := HP.out
                  exact ⟨k, s, _, q, c', _, rfl, rfl, rfl, hss, I6.itRow.step (bdrew (Below.refl _ _)), hr2, by omega, hBS, bdrew (bonly hB5 (only_trans HG3.out hG6) hrw)⟩
              · by_cases hc1 : c' = 1
                · obtain rfl : q = 1 := by omega
                  subst hc1
                  go_wp2_with fail
                  go_meet
                  refine ⟨k, s, _, 0, 0, [], rfl, rfl, rfl, hss, ⟨rfl, fun h => absurd h (by omega)⟩, Nat.le_refl _, by omega, Lib.hid (fun x hx => by cases hx), hB5⟩
                · have k4 : ¬ (c' : Int) = 1 := by omega
                  have k5 : (1 : Int) ≤ c' := by omega
                  have k6 : (1 : Int) ≤ q := by omega
                  go_wp2_with fail
                  go_meet
                  have hlt0 := hLT.out
                  refine ⟨k, s, some ⟨r, 3, none⟩, q - 1, c' - 1, t.drop 1, rfl, rfl, rfl, hss, ⟨by rw [List.length_drop, hlt0], fun h => ⟨r, 3, rfl, hr1, fun i hi => ?_⟩⟩, by omega, by omega, Lib.hid (hbd.out.drop 1), hB5⟩
                  obtain ⟨u0, u1, u2⟩ := HCE.out (i + 1) (by omega)
                  have e1 : (t.drop 1).getD i default = t.getD (i + 1) default := by
                    rw [List.getD_eq_getElem?_getD, List.getD_eq_getElem?_getD, List.getElem?_drop, Nat.add_comm]
                  have e2 : 3 + i * 3 = (i + 1) * 3 := by omega
                  rw [e1, e2]
                  exact ⟨u0, u1, u2⟩
              · go_wp2_with fail
                go_meet
                exact ⟨k, s, _, q, c', t, rfl, rfl, rfl, hss, hI.itRow, hr2, by omega, hbd, hB5⟩
  case rest =>
    clear HBD hn hnc R hs hx
    clear A n c l seen room
    obtain ⟨room, seen, A, n, c, l, rfl, rfl, rfl, hs, R, hnc, hn, HBD, hB⟩ := hcut
    by_cases hr : room < 1 ∨ 16 < room
    · have HN := Lib.hid (fun W v => of_room room (seen : Int) v hr W)
      have HR := Lib.hid (fun W v => rof_room room (seen : Int) v hr W)
      clear hr
      go_wp2_with (first
        | (go_at_call 20; refine (HN.out _ _).mono ?_; rintro e w2 ⟨rfl, rfl⟩)
        | (go_at_call 22; refine (refs_call A n c l _ R hnc hn).mono ?_; rintro e w3 ⟨⟨A2, c2, rfl, hI⟩, b3⟩)
        | (go_at_call 21; refine (HR.out _ _).mono ?_; rintro e w4 ⟨rfl, rfl⟩))
      go_ret
      exact ⟨rfl, bstep b3 hB⟩
    · obtain ⟨k, rfl⟩ := Int.eq_ofNat_of_zero_le (show 0 ≤ room by omega)
      have hk : 1 ≤ k ∧ k ≤ 16 := by omega
      clear hr
      have hbw := hB.size
      go_wp2_with fail
      refine (of_call w.heap.size k seen A n c l _ hbw hk R hnc hn hs HBD.out).mono ?_
      rintro e w2 ⟨hA, b2⟩
      have R2 := R.step b2
      by_cases hR : RightP k seen l
      · obtain ⟨A3, n3, c3, rfl, T3, _⟩ : ∃ A' n c', e = .returned (.tuple #[.pointer (some ⟨wc.heap.size, 0, none⟩), .int .i64 0]) ∧ Tp w2 w.heap.size wc.heap.size k seen A' n c' l ∧ (∀ q, Value.ownBlock (.slice A' n c') = some q → wc.heap.size ≤ q) := by
          rcases hA with ⟨_, h⟩ | ⟨h, _⟩
          · exact h
          · exact absurd hR h
        have INV : Inv k seen l := ⟨hR.sum, right_nodup hR, hR.len, hR.sn⟩
        have HR := Lib.hid hR
        have HI := Lib.hid INV
        clear hA hR INV R
        have hB2 := bstep b2 hB
        generalize wc.heap.size = g at *
        go_wp2_with fail
        refine (refs_call A n c l _ R2 hnc hn).mono ?_
        rintro e w3 ⟨⟨A2, c2, rfl, hI2⟩, b3⟩
        have T4 := T3.step b3
        have hB3 := bstep b3 hB2
        clear T3 R2
        go_wp2_with fail
        refine (rof_call w.heap.size k seen A2 n c2 l _ hB3.size hk hI2.itRow (rits_le hI2) hn hs HBD.out).mono ?_
        rintro e w5 ⟨hA, b5⟩
        obtain ⟨A6, n6, c6, rfl, R6⟩ : ∃ A' n c', e = .returned (.tuple #[.pointer (some ⟨w3.heap.size, 0, none⟩), .int .i64 0]) ∧ Rp w5 w.heap.size w3.heap.size k seen A' n c' l := by
          rcases hA with ⟨_, h⟩ | ⟨h, _⟩
          · exact h
          · exact absurd HR.out h
        have P : PR w w.heap.size g w3.heap.size k seen seen l l w5 := ⟨A3, n3, c3, A6, n6, c6, T4.step b5, R6, HI.out, HI.out, bstep b5 hB3, Nat.le_refl _⟩
        generalize w3.heap.size = h at *
        clear hA R6 T4 hB3 b5 b3 hI2
        go_wp2_with fail
        refine (pr_items1 P).mono ?_
        rintro e w6 ⟨A1, n1, d1, t1, rfl, hT1, hI1, h16, hn1, P4⟩
        go_wp2_with fail
        refine (pr_refs hI1 h16 hn1 P4).mono ?_
        rintro e w7 ⟨A2, d2, rfl, hn2, hR2, P5⟩
        clear hI1 P4 P
        go_wp2_with fail
        refine (pr_items2 hR2 hT1 P5).mono ?_
        rintro e w8 ⟨A3, d3, rfl, hn3, hR3, hR2', P6⟩
        clear hR2 P5
        go_wp2_with fail
        refine (pr_same hR2' hR3 h16 hn2 hn3 P6).mono ?_
        rintro e w9 ⟨rfl, P7⟩
        clear hR2' hR3 P6 hn1 hn2 hn3 h16 hT1
        go_wp2_with fail
        refine (tm_seen P7.tm).mono ?_
        rintro e w9' ⟨rfl, rfl⟩
        go_wp2_with fail
        refine (pr_least1 P7).mono ?_
        rintro e w10 ⟨rfl, P8⟩
        go_wp2_with fail
        refine (pr_least2 P8).mono ?_
        rintro e w11 ⟨rfl, P9⟩
        clear P7 P8
        go_wp2_with fail
        go_ret
        exact ⟨ret_bool (by simp), P9.tm.below⟩
      · have he : e = .returned (.tuple #[.pointer none, .int .i64 2]) := by
          rcases hA with ⟨h, _⟩ | ⟨_, h⟩
          · exact absurd h hR
          · exact h
        subst he
        have HR := Lib.hid hR
        clear hA hR R
        go_wp2_with fail
        refine (refs_call A n c l _ R2 hnc hn).mono ?_
        rintro e w3 ⟨⟨A2, c2, rfl, hI2⟩, b3⟩
        have hB3 := bstep b3 (bstep b2 hB)
        go_wp2_with fail
        refine (rof_call w.heap.size k seen A2 n c2 l _ hB3.size hk hI2.itRow (rits_le hI2) hn hs HBD.out).mono ?_
        rintro e w5 ⟨hA, b5⟩
        have he : e = .returned (.tuple #[.pointer none, .int .i64 2]) := by
          rcases hA with ⟨h, _⟩ | ⟨_, h⟩
          · exact absurd h HR.out
          · exact h
        subst he
        clear hA
        go_wp2_with fail
        go_ret
        exact ⟨rfl, bstep b5 hB3⟩
end Go.Proofs.Ytcbheekfdhklcaa

/- The walk of HllPlays: it returns true, whatever it is given; what lay in memory stays. -/
import Derived.Test.YtjliamckoggnbaaDoorHllO
import Derived.Test.YtjliamckoggnbaaDoorFields
import Derived.Deep.CutRange
import Derived.Deep.RegionHeld3
namespace Go.Proofs.YtjliamckoggnbaaDoor
open Go.RowKit
set_option linter.unusedVariables false
set_option linter.unusedSimpArgs false

/-- A deed's cells. -/
structure DeedAt (w : World) (b o : Nat) (kd h bi : Int) (A : Option Addr) (l c : Nat) (xs : List Int) : Prop where
  c0 : w.cell? ⟨b, o, none⟩ = some (.int .u8 kd)
  c1 : w.cell? ⟨b, o + 1, none⟩ = some (.int .u64 h)
  c2 : w.cell? ⟨b, o + 2, none⟩ = some (.slice A l c)
  c3 : w.cell? ⟨b, o + 3, none⟩ = some (.int .i64 bi)
  hx : Ints .u64 w A l xs
  hl : l ≤ 9223372036854775807
  w0 : 0 ≤ kd ∧ kd ≤ 255
  w1 : 0 ≤ h ∧ h ≤ 18446744073709551615
  w3 : -9223372036854775808 ≤ bi ∧ bi ≤ 9223372036854775807

/-- The deeds at a. -/
structure Deeds (w : World) (a : Option Addr) (n : Nat) : Prop where
  hn : n ≤ 9223372036854775807
  at_ : 0 < n → ∃ b off, a = some ⟨b, off, none⟩ ∧ b < w.heap.size ∧ ∀ i, i < n → ∃ kd h bi A l c xs, DeedAt w b (off + i * 4) kd h bi A l c xs

theorem DeedAt.step {w w' : World} {b o : Nat} {kd h bi : Int} {A : Option Addr} {l c : Nat} {xs : List Int} (hb : Below w.heap.size w w') (hlt : b < w.heap.size) (D : DeedAt w b o kd h bi A l c xs) : DeedAt w' b o kd h bi A l c xs :=
  ⟨(hb.cell (p := ⟨b, o, none⟩) hlt).trans D.c0, (hb.cell (p := ⟨b, o + 1, none⟩) hlt).trans D.c1, (hb.cell (p := ⟨b, o + 2, none⟩) hlt).trans D.c2, (hb.cell (p := ⟨b, o + 3, none⟩) hlt).trans D.c3, D.hx.step hb, D.hl, D.w0, D.w1, D.w3⟩
theorem Deeds.step {w w' : World} {a : Option Addr} {n : Nat} (hb : Below w.heap.size w w') (D : Deeds w a n) : Deeds w' a n :=
  ⟨D.hn, fun h => by
    obtain ⟨b, off, ha, hlt, hi⟩ := D.at_ h
    refine ⟨b, off, ha, Nat.lt_of_lt_of_le hlt hb.size, fun i hin => ?_⟩
    obtain ⟨kd, h, bi, A, l, c, xs, d⟩ := hi i hin
    exact ⟨kd, h, bi, A, l, c, xs, d.step hb hlt⟩⟩

theorem wrap64_bd (x : Int) : -9223372036854775808 ≤ wrap64 x ∧ wrap64 x ≤ 9223372036854775807 := by
  unfold wrap64; omega

/-- What the play keeps: the program's sketch, the document's one, and what lay below. -/
structure PI (w w' : World) (g gx yx b : Nat) (p q : List Int) : Prop where
  s : Sk w' g b p
  x : Rf w' gx yx b q
  bl : Below w.heap.size w w'
  g0 : w.heap.size ≤ g
  x0 : w.heap.size ≤ gx
  y0 : w.heap.size ≤ yx

section
variable {w w' w1 : World} {g gx yx b : Nat} {p q : List Int}
theorem PI.ne1 (h : PI w w' g gx yx b p q) : g ≠ gx := h.s.blk.ne_ h.x.blk (by decide)
theorem PI.ne2 (h : PI w w' g gx yx b p q) : g ≠ yx := h.s.blk.ne_ h.x.row (by decide)
theorem PI.step (hb : Below w'.heap.size w' w1) (h : PI w w' g gx yx b p q) : PI w w1 g gx yx b p q := ⟨h.s.step hb, h.x.step hb, bstep hb h.bl, h.g0, h.x0, h.y0⟩
theorem PI.gs {p' : List Int} (h : PI w w' g gx yx b p q) (hS : Sk w1 g b p') (hG : w'.grownBy w1 (some g)) : PI w w1 g gx yx b p' q :=
  ⟨hS, h.x.grown hG (by have := h.ne1; simp; omega) (by have := h.ne2; simp; omega), bonly h.bl hG h.g0, h.g0, h.x0, h.y0⟩
theorem PI.gr {q' : List Int} (h : PI w w' g gx yx b p q) (hR : Rf w1 gx yx b q') (hG : w'.grownBy w1 (some yx)) : PI w w1 g gx yx b p q' :=
  ⟨h.s.grown hG (by have := h.ne2; simp; omega), hR, bonly h.bl hG h.y0, h.g0, h.x0, h.y0⟩
end

theorem PI.far {w w' w1 : World} {g gx yx b z : Nat} {p q : List Int} (h : PI w w' g gx yx b p q) (hG : w'.grownBy w1 (some z)) (h1 : g ≠ z) (h2 : gx ≠ z) (h3 : yx ≠ z) (h4 : w.heap.size ≤ z) : PI w w1 g gx yx b p q :=
  ⟨h.s.grown hG (by simp; omega), h.x.grown hG (by simp; omega) (by simp; omega), bonly h.bl hG h4, h.g0, h.x0, h.y0⟩
theorem PI.drew {w w' : World} {g gx yx b : Nat} {p q : List Int} (h : PI w w' g gx yx b p q) : PI w w'.drew g gx yx b p q := ⟨⟨h.s.blk, h.s.lo, h.s.hi, h.s.len, h.s.wf⟩, ⟨h.x.blk, h.x.row, h.x.lo, h.x.hi, h.x.len, h.x.wf⟩, bdrew h.bl, h.g0, h.x0, h.y0⟩
theorem PI.add {w W : World} {g gx yx b gu : Nat} {p q : List Int} {cs : Array Value} (h : Nat) (hh : h < 18446744073709551616) (hT : Tab w) (P : PI w W g gx yx b p q) (U : Blk W gu 51 cs) :
    Calls Tryd.prog 20 #[.pointer (some ⟨g, 0, none⟩), .int .u64 h] W fun e w' => e = .returned (.bool (addB b p h)) ∧ PI w w' g gx yx b (addR b p h) q ∧ Blk w' gu 51 cs := by
  refine (Add_any g b p h W hh P.s (hT.step P.bl)).mono ?_
  rintro e w' ⟨rfl, hS, hG⟩
  exact ⟨rfl, P.gs hS hG, Blk.grown hG U (by have := U.ne_ P.s.blk (by decide); simp; omega)⟩
theorem PI.radd {w W : World} {g gx yx b gu : Nat} {p q : List Int} {cs : Array Value} (h : Nat) (hh : h < 18446744073709551616) (P : PI w W g gx yx b p q) (U : Blk W gu 51 cs) :
    Calls Tryd.prog 25 #[.pointer (some ⟨gx, 0, none⟩), .int .u64 h] W fun e w' => e = .returned (.bool (addB b q h)) ∧ PI w w' g gx yx b p (addR b q h) ∧ Blk w' gu 51 cs := by
  refine (RAdd_any gx yx b q h W hh P.x).mono ?_
  rintro e w' ⟨rfl, hR, hG⟩
  exact ⟨rfl, P.gr hR hG, Blk.grown hG U (by have := U.ne_ P.x.row (by decide); simp; omega)⟩
theorem near_bits (x : Int) : ∃ b : Nat, wrap64 (4 + wrap64 ((IntKind.u64.wrap x).tmod 7)) = (b : Int) ∧ (b = 4 ∨ b = 5 ∨ b = 6 ∨ b = 7 ∨ b = 8 ∨ b = 9 ∨ b = 10) := by
  have h0 : 0 ≤ IntKind.u64.wrap x := by
    simp only [IntKind.wrap, IntKind.signed, IntKind.bits]
    simp
    omega
  rw [Int.tmod_eq_emod_of_nonneg h0]
  generalize IntKind.u64.wrap x = y at *
  refine ⟨(4 + y % 7).toNat, ?_, by omega⟩
  unfold wrap64
  omega

set_option maxRecDepth 100000 in
set_option maxHeartbeats 2000000 in
theorem plays_walk (bits : Int) (near : Bool) (a : Option Addr) (n cap : Nat) (w : World) (hT : Tab w) (h1 : -9223372036854775808 ≤ bits ∧ bits ≤ 9223372036854775807) (hD : Deeds w a n) :
    Calls Tryd.prog 9 #[.int .i64 bits, .bool near, .slice a n cap] w fun e w' => e = .returned (.bool true) ∧ Below w.heap.size w w' := by
  go_enter Tryd.func9, Tryd.ntmps9
  go_wp2_with fail
  refine (examples_any _ hT).mono ?_
  rintro e w1 ⟨rfl, b1⟩
  go_upto_if 21 with fail
  go_cut [0] (fun v wx => ∃ bits : Int, v = .int .i64 bits ∧ -9223372036854775808 ≤ bits ∧ bits ≤ 9223372036854775807 ∧ Below w.heap.size w wx)
  case first =>
    cases near
    · go_wp2_with fail
      go_meet
      exact ⟨bits, rfl, h1.1, h1.2, b1⟩
    · go_wp2_with fail
      go_meet
      have hw := Lib.hid (fun x : Int => wrap64_bd x)
      exact ⟨_, rfl, (hw.out _).1, (hw.out _).2, b1⟩
  case rest =>
    clear h1 b1
    obtain ⟨bits, rfl, h1, h2, hB⟩ := hcut
    by_cases hb : bits < 4 ∨ 10 < bits
    · go_wp2_with fail
      refine (New_no bits _ hb).mono ?_
      rintro e w2 ⟨rfl, b2⟩
      go_wp2_with fail
      refine (RNew_no bits _ hb).mono ?_
      rintro e w3 ⟨rfl, rfl⟩
      go_wp2_with fail
      go_ret
      exact ⟨rfl, bstep b2 hB⟩
    · obtain ⟨b, rfl⟩ := Int.eq_ofNat_of_zero_le (show 0 ≤ bits by omega)
      have hbb : b = 4 ∨ b = 5 ∨ b = 6 ∨ b = 7 ∨ b = 8 ∨ b = 9 ∨ b = 10 := by omega
      clear hb h1 h2
      have HBB := Lib.hid hbb
      clear hbb
      go_wp2_with fail
      refine (New_yes b _ HBB.out).mono ?_
      rintro e w2 ⟨rfl, s2, b2⟩
      have hg := hB.size
      replace s2 : Sk w2 wc.heap.size b (zeros b) := s2
      replace hB := bstep b2 hB
      generalize wc.heap.size = g at *
      clear b2
      go_wp2_with fail
      refine (RNew_yes b _ HBB.out).mono ?_
      rintro e w3 ⟨gx, yx, rfl, hgx, hyx, R3, b3⟩
      replace s2 := Sk.step b3 s2
      have hgx2 := Nat.le_trans hB.size hgx
      have hyx2 := Nat.le_trans hB.size hyx
      replace hB := bstep b3 hB
      clear b3
      go_wp2_with fail
      have hP : PI w w3 g gx yx b (zeros b) (zeros b) := ⟨s2, R3, hB, hg, hgx2, hyx2⟩
      clear s2 R3 hB hgx hyx hgx2 hyx2
      go_loopw [10, 11] (fun x i wr => ∃ (k gx yx : Nat) (r : List Int), k ≤ n ∧ k ≤ 200 ∧ i = .int .i64 k ∧ x = .pointer (some ⟨gx, 0, none⟩) ∧ PI w wr g gx yx b r r) (fun _ i _ => n - (intOf i).toNat)
      case atStart => exact ⟨0, gx, yx, zeros b, Nat.zero_le _, Nat.zero_le _, rfl, rfl, hP⟩
      case round =>
        clear hP
        obtain ⟨k, gx, yx, r, hk, hk2, rfl, rfl, hP⟩ := hrel
        have hnn := hD.hn
        by_cases hkn : k < n ∧ k < 200
        · obtain ⟨hkn, hk3⟩ := hkn
          obtain ⟨ab, off, rfl, hbl, hc⟩ := (hD.step hP.bl).at_ (by omega)
          obtain ⟨kd, h, bi, A, l, c, xs, d⟩ := hc k hkn
          have d0 := d.c0
          have d1 := d.c1
          have d2 := d.c2
          have d3 := d.c3
          clear hc
          have hk1 : (k : Int) < n := by omega
          obtain ⟨q, hq⟩ := Int.eq_ofNat_of_zero_le (show 0 ≤ kd % 8 by have := d.w0; omega)
          have hq8 : q < 8 := by omega
          go_upto_region 16 with fail
          have hU : Blk (wr.alloc (.cells #[.int .u8 kd, .int .u64 h, .slice A l c, .int .i64 bi] 51)) wr.heap.size 51 #[.int .u8 kd, .int .u64 h, .slice A l c, .int .i64 bi] := Blk.new _ _ _
          have hb4 : Below wr.heap.size wr (wr.alloc (.cells #[.int .u8 kd, .int .u64 h, .slice A l c, .int .i64 bi] 51)) := balloc (Below.refl _ _) _
          replace hP := hP.step hb4
          have hx := d.hx.step hb4
          have hl := d.hl
          obtain ⟨hkd, hh, hbi⟩ := And.intro d.w0 (And.intro d.w1 d.w3)
          generalize wr.alloc (.cells #[.int .u8 kd, .int .u64 h, .slice A l c, .int .i64 bi] 51) = wu at *
          clear d d0 d1 d2 d3 hb4
          generalize wr.heap.size = gu at *
          have u0 := hU.cellAt 0 rfl
          have u1 := hU.cellAt 1 rfl
          have u2 := hU.cellAt 2 rfl
          have u3 := hU.cellAt 3 rfl
          go_upto_block 2 with fail
          go_cut [10, 13, 14, 15, 16, 17] from 51 to 146 (fun x _ _ _ _ _ wx => ∃ (gx yx : Nat) (r : List Int), x = .pointer (some ⟨gx, 0, none⟩) ∧ PI w wx g gx yx b r r)
          case first =>
            have hd67 : q = 6 ∨ q = 7 ∨ (q ≠ 6 ∧ q ≠ 7) := by omega
            rcases hd67 with rfl | rfl | ⟨h6, h7⟩
            · go_upto_if 83 with fail
              go_cut [13] from 51 to 146 (fun v wx => ∃ b' : Nat, v = .int .i64 b' ∧ (b' = 4 ∨ b' = 5 ∨ b' = 6 ∨ b' = 7 ∨ b' = 8 ∨ b' = 9 ∨ b' = 10) ∧ wx = wu)
              case first =>
                cases hz : (bi.tmod 4 == 0)
                · go_wp2_with fail
                  go_meet
                  exact ⟨b, rfl, HBB.out, rfl⟩
                · go_wp2_with fail
                  go_meet
                  obtain ⟨b', e1, e2⟩ := near_bits bi
                  exact ⟨b', by rw [← e1], e2, rfl⟩
              case rest =>
                obtain ⟨b', rfl, hb', rfl⟩ := hcut
                have HB' := Lib.hid hb'
                clear hb'
                go_wp2_with fail
                refine (New_yes b' _ HB'.out).mono ?_
                rintro e wt ⟨rfl, st, bt⟩
                replace st : Sk wt wc.heap.size b' (zeros b') := st
                have o1 := hP.s.lt
                have o2 := hP.x.lt
                have o3 := hP.bl.size
                clear u0 u1 u2 u3
                generalize hgt : wc.heap.size = gt at *
                have HGT := Lib.hid hgt
                clear hgt
                go_wp2_with fail
                refine (RNew_yes b' _ HB'.out).mono ?_
                rintro e wy ⟨gy, yy, rfl, hgy, hyy, ry, by_⟩
                have o4 := st.lt
                replace st := st.step by_
                have hBt : Below gt wc wy := by
                  have h := bstep by_ (show Below wc.heap.size wc wt by rw [HGT.out]; exact bt)
                  rw [HGT.out] at h
                  exact h
                clear by_ bt
                have u2 := (Blk.step (show Below wc.heap.size wc wy by rw [HGT.out]; exact hBt) hU).cellAt 2 rfl
                go_wp2_with fail
                go_loopw [17] (fun i wr => ∃ (j : Nat) (rr : List Int), j ≤ l ∧ j ≤ 40 ∧ i = .int .i64 j ∧ Sk wr gt b' rr ∧ Rf wr gy yy b' rr ∧ Below gt wc wr) (fun i _ => l - (intOf i).toNat)
                case atStart => exact ⟨0, zeros b', Nat.zero_le _, Nat.zero_le _, rfl, st, ry, hBt⟩
                case round =>
                  clear hBt u2 st ry
                  obtain ⟨j, rr, hj, hj2, rfl, st, ry, hBt⟩ := hrel
                  have hBw : Below wc.heap.size wc wr := by rw [HGT.out]; exact hBt
                  have u2 := (Blk.step hBw hU).cellAt 2 rfl
                  by_cases hjl : j < l ∧ j < 40
                  · obtain ⟨hjl, hj3⟩ := hjl
                    obtain ⟨ab2, off2, rfl, hbl2, hc2⟩ := hx.at_ (by omega)
                    have hck1 := hc2 j hjl
                    have hck2 := (hBw.cell (p := ⟨ab2, off2 + j, none⟩) hbl2).trans hck1
                    have hv := hx.bd64 j hjl
                    clear hc2
                    generalize xs.getD j 0 = v at *
                    obtain ⟨v, rfl⟩ := Int.eq_ofNat_of_zero_le hv.1
                    have hvv : v < 18446744073709551616 := by omega
                    have hTw := hT.step ((hP.step hBw).bl)
                    have HA := Lib.hid (Add_any gt b' rr v wr hvv st hTw)
                    have HR := Lib.hid (fun W R => RAdd_any gy yy b' rr v W hvv R)
                    clear hTw
                    generalize addB b' rr v = o at *
                    generalize addR b' rr v = rr2 at *
                    have hj1 : (j : Int) < l := by omega
                    go_wp2_with fail
                    refine (HA.out).mono ?_
                    rintro e w5 ⟨rfl, st5, hG5⟩
                    have hB5 := bonly hBw hG5 (by rw [HGT.out]; exact Nat.le_refl _)
                    have ry5 := ry.grown hG5 (by simp; omega) (by simp; omega)
                    have u2' := (Blk.step hB5 hU).cellAt 2 rfl
                    have hck3 : w5.cell? ⟨ab2, off2 + j, none⟩ = some (.int .u64 v) := (hB5.cell (p := ⟨ab2, off2 + j, none⟩) hbl2).trans hck1
                    go_wp2_with fail
                    refine (HR.out _ ry5).mono ?_
                    rintro e w6 ⟨rfl, ry6, hG6⟩
                    have hB6 := bonly hB5 hG6 (by rw [HGT.out]; omega)
                    have st6 := st5.grown hG6 (by simp; omega)
                    rw [HGT.out] at hB6
                    go_wp2_with fail
                    go_roundw
                    case rel => exact ⟨j + 1, rr2, by omega, by omega, by go_num, st6, ry6, hB6⟩
                    case measure => simp [intOf]; omega
                  · have hPw := hP.step hBw
                    have hj4 : (j < l ∧ j = 40) ∨ j = l := by omega
                    clear hx hBt
                    by_cases hbb : b = b'
                    · subst hbb
                      have HM1 := Lib.hid (Merge_yes g gt b _ _ _ hPw.s st (by omega))
                      have HM2 := Lib.hid (fun W (hP7 : PI w W g gx yx b (List.zipWith max r rr) r) (ry7 : Rf W gy yy b rr) => RMerge_yes gx yx b _ gy yy _ W hP7.x ry7 (by omega))
                      rcases hj4 with ⟨hj5, rfl⟩ | rfl
                      all_goals
                        go_wp2_with fail
                        refine (HM1.out).mono ?_
                        rintro e w7 ⟨rfl, s7, G7⟩
                        have hP7 := hPw.gs s7 G7
                        have ry7 := ry.grown G7 (by simp; omega) (by simp; omega)
                        go_wp2_with fail
                        refine (HM2.out _ hP7 ry7).mono ?_
                        rintro e w8 ⟨rfl, s8, G8⟩
                        have hP8 := hP7.gr s8 G8
                        go_wp2_with fail
                        go_meet
                        exact ⟨gx, yx, _, rfl, hP8⟩
                    · have HM1 := Lib.hid (Merge_no g gt b b' _ _ _ hPw.s st hbb)
                      have HM2 := Lib.hid (fun W (hP7 : PI w W g gx yx b r r) (ry7 : Rf W gy yy b' rr) => RMerge_no gx yx b _ gy yy b' _ W hP7.x ry7 hbb)
                      rcases hj4 with ⟨hj5, rfl⟩ | rfl
                      all_goals
                        go_wp2_with fail
                        refine (HM1.out).mono ?_
                        rintro e w7 ⟨rfl, G7⟩
                        have hP7 := hPw.step G7
                        have ry7 := ry.step G7
                        go_wp2_with fail
                        refine (HM2.out _ hP7 ry7).mono ?_
                        rintro e w8 ⟨rfl, G8⟩
                        have hP8 := hP7.step G8
                        go_wp2_with fail
                        go_meet
                        exact ⟨gx, yx, _, rfl, hP8⟩
            · clear hx
              cases hz : (h % 8 == 0)
              · go_wp2_with fail
                go_meet
                exact ⟨gx, yx, _, rfl, hP⟩
              · go_wp2_with fail
                refine (Clear_any g b _ _ hP.s).mono ?_
                rintro e w5 ⟨rfl, s5, G5⟩
                have hP5 := hP.gs s5 G5
                go_wp2_with fail
                refine (RNew_yes b _ HBB.out).mono ?_
                rintro e w6 ⟨gx2, yx2, rfl, hgx, hyx, R6, b6⟩
                go_wp2_with fail
                go_meet
                exact ⟨gx2, yx2, _, rfl, ⟨hP5.s.step b6, R6, bstep b6 hP5.bl, hP5.g0, Nat.le_trans hP5.bl.size hgx, Nat.le_trans hP5.bl.size hyx⟩⟩
            · have h6' : ((q : Int) == 6) = false := by simp; omega
              have h7' : ((q : Int) == 7) = false := by simp; omega
              clear hx
              obtain ⟨h, rfl⟩ := Int.eq_ofNat_of_zero_le hh.1
              have hh' : h < 18446744073709551616 := by omega
              have HA := Lib.hid (fun W q (P : PI w W g gx yx b r q) (U : Blk W gu 51 #[.int .u8 kd, .int .u64 h, .slice A l c, .int .i64 bi]) => P.add h hh' hT U)
              have HR := Lib.hid (fun W p (P : PI w W g gx yx b p r) (U : Blk W gu 51 #[.int .u8 kd, .int .u64 h, .slice A l c, .int .i64 bi]) => P.radd h hh' U)
              generalize addB b r h = o at *
              generalize addR b r h = r2 at *
              go_upto_region 17 with fail
              go_region_held3 (fun w' => w'.cell? ⟨gu, 1, none⟩ = some (.int .u64 h)) (first | exact u1 | exact hU.cellAt 1 rfl)
                (first
                  | (go_at_call 20; ((with_reducible refine (HA.out _ r ?_ ?_).mono ?_); (first | exact hP | exact hP.drew); (first | exact hU | exact hU.drew); rintro e wA ⟨rfl, hPA, hUA⟩; replace hP := hPA; replace hU := hUA; clear hPA hUA))
                  | (go_at_call 20; ((with_reducible refine (HA.out _ r2 ?_ ?_).mono ?_); (first | exact hP | exact hP.drew); (first | exact hU | exact hU.drew); rintro e wA ⟨rfl, hPA, hUA⟩; replace hP := hPA; replace hU := hUA; clear hPA hUA))
                  | (go_at_call 25; ((with_reducible refine (HR.out _ r ?_ ?_).mono ?_); (first | exact hP | exact hP.drew); (first | exact hU | exact hU.drew); rintro e wA ⟨rfl, hPA, hUA⟩; replace hP := hPA; replace hU := hUA; clear hPA hUA))
                  | (go_at_call 25; ((with_reducible refine (HR.out _ r2 ?_ ?_).mono ?_); (first | exact hP | exact hP.drew); (first | exact hU | exact hU.drew); rintro e wA ⟨rfl, hPA, hUA⟩; replace hP := hPA; replace hU := hUA; clear hPA hUA)))
              all_goals
                go_wp2_with fail
                go_meet
                exact ⟨gx, yx, _, rfl, hP⟩
          case rest =>
            clear hP hx u0 u1 u2 u3 hU
            obtain ⟨gx2, yx2, r2, rfl, hP⟩ := hcut
            go_wp2_with fail
            refine (Registers_any g b _ _ hP.s).mono ?_
            rintro e w5 ⟨rfl, rfl⟩
            go_wp2_with fail
            refine (RRegisters_any gx2 yx2 b _ _ hP.x).mono ?_
            rintro e w6 ⟨rfl, b6⟩
            replace hP := hP.step b6
            go_wp2_with fail
            go_roundw
            case rel => exact ⟨k + 1, gx2, yx2, r2, by omega, by omega, by go_num, rfl, hP⟩
            case measure => simp [intOf]; omega
        · have hk4 : (k : Int) < n ∧ k = 200 ∨ k = n := by omega
          clear hD
          rcases hk4 with ⟨hk5, rfl⟩ | rfl
          all_goals
            go_wp2_with fail
            refine (Estimate_any g b _ _ hP.s).mono ?_
            rintro e w4 ⟨rfl, b4⟩
            replace hP := hP.step b4
            clear b4
            go_wp2_with fail
            refine (REstimate_any gx yx b _ _ hP.x).mono ?_
            rintro e w5 ⟨rfl, b5⟩
            replace hP := hP.step b5
            clear b5
            go_wp2_with fail
            refine (Bits_any g b _ _ hP.s).mono ?_
            rintro e w6 ⟨rfl, rfl⟩
            go_wp2_with fail
            refine (RBits_any gx yx b _ _ hP.x).mono ?_
            rintro e w7 ⟨rfl, b7⟩
            replace hP := hP.step b7
            go_wp2_with fail
            go_ret
            exact ⟨rfl, hP.bl⟩
end Go.Proofs.YtjliamckoggnbaaDoor

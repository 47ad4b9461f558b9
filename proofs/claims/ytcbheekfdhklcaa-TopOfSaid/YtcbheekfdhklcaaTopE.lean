/- New, Seen, Room, Clear, Least. -/
import Derived.Test.YtcbheekfdhklcaaTopD
import Derived.Sort.Grow
import Derived.Handy
import Derived.Deep.CutBlock
import Derived.Deep.DeepCutAuto
namespace Go.Proofs.Ytcbheekfdhklcaa
open Go.RowKit
set_option linter.unusedVariables false
set_option linter.unusedSimpArgs false

theorem nan64 (x : Int) (w : World) : Calls Try.prog 41 #[.int .u64 x] w fun e w' => e = .returned (.bool false) ∧ w' = w := by
  have h1 : (x == x) = true := by simp
  go_enter Try.func41, Try.ntmps41
  go_wp2_with fail
  go_ret
  exact ⟨by simp, rfl⟩
def cmpN (a b : Nat) : Int := if a < b then -1 else if b < a then 1 else 0
theorem cmp64 (a b : Nat) (w : World) : Calls Try.prog 33 #[.int .u64 a, .int .u64 b] w fun e w' => e = .returned (.int .i64 (cmpN a b)) ∧ w' = w := by
  rcases Nat.lt_trichotomy a b with h | h | h
  · have e : cmpN a b = -1 := if_pos h
    rw [e]
    clear e
    have h1 : (a : Int) < b := by omega
    go_enter Try.func33, Try.ntmps33
    go_wp2_with (first | (go_at_call 41; refine (nan64 _ _).mono ?_; rintro e w1 ⟨rfl, rfl⟩))
    go_ret
    exact ⟨rfl, rfl⟩
  · subst h
    have e : cmpN a a = 0 := by unfold cmpN; simp
    rw [e]
    clear e
    have h1 : ¬ (a : Int) < a := by omega
    go_enter Try.func33, Try.ntmps33
    go_wp2_with (first | (go_at_call 41; refine (nan64 _ _).mono ?_; rintro e w1 ⟨rfl, rfl⟩))
    go_ret
    exact ⟨rfl, rfl⟩
  · have e : cmpN a b = 1 := by unfold cmpN; rw [if_neg (by omega), if_pos h]
    rw [e]
    clear e
    have h1 : ¬ (a : Int) < b := by omega
    have h2 : (b : Int) < a := by omega
    go_enter Try.func33, Try.ntmps33
    go_wp2_with (first | (go_at_call 41; refine (nan64 _ _).mono ?_; rintro e w1 ⟨rfl, rfl⟩))
    go_ret
    exact ⟨rfl, rfl⟩

/-- An item's value. -/
def itV (x : It) : Value := .agg #[.string x.name, .int .u64 x.many, .int .u64 x.over]
theorem least1 (a b : It) (w : World) : Calls Try.prog 32 #[.agg #[.string a.name, .int .u64 a.many, .int .u64 a.over], .agg #[.string b.name, .int .u64 b.many, .int .u64 b.over]] w fun e w' => e = .returned (.int .i64 (cmpN a.many b.many)) ∧ Below w.heap.size w w' := by
  have hcon := fun W => cmp64 a.many b.many W
  generalize cmpN a.many b.many = r at hcon ⊢
  have B : ∀ o1 o2, Below w.heap.size w ((w.alloc o1).alloc o2) := fun o1 o2 => balloc (balloc (Below.refl _ _) _) _
  go_enter Try.func32, Try.ntmps32
  go_wp2_with (first | (go_at_call 33; refine (hcon _).mono ?_; rintro e w1 ⟨rfl, rfl⟩))
  go_ret
  exact ⟨rfl, B _ _⟩

theorem Blk.put3 {w : World} {g : Nat} {t : TypeId} {a b c : Value} (h : Blk w g t #[a, b, c]) (x y z : Value) : Blk (((w.setCell ⟨g, 0, none⟩ x).setCell ⟨g, 1, none⟩ y).setCell ⟨g, 2, none⟩ z) g t #[x, y, z] := ((h.put 0 x).put 1 y).put 2 z
theorem Blk.froz3 {w : World} {g : Nat} {t : TypeId} {cs : Array Value} (h : Blk w g t cs) (x y : Value) : w.frozen? ⟨g, 0, none⟩ = false ∧ (w.setCell ⟨g, 0, none⟩ x).frozen? ⟨g, 1, none⟩ = false ∧ ((w.setCell ⟨g, 0, none⟩ x).setCell ⟨g, 1, none⟩ y).frozen? ⟨g, 2, none⟩ = false := ⟨h.frozen 0, (h.put 0 x).frozen 1, ((h.put 0 x).put 1 y).frozen 2⟩

set_option maxRecDepth 100000 in
set_option maxHeartbeats 2000000 in
theorem min_call (base : Nat) (A : Option Addr) (n c : Nat) (l : List It) (w : World) (T : Its w base A n c l) (hn : 0 < n) (hn16 : n ≤ 16) :
    Calls Try.prog 31 #[.slice A n c, .func (.func 32) #[] #[]] w fun e w' => (∃ x, x ∈ l ∧ (∀ y ∈ l, x.many ≤ y.many) ∧ e = .returned (.agg #[.string x.name, .int .u64 x.many, .int .u64 x.over])) ∧ Below w.heap.size w w' := by
  have hln := T.len
  obtain ⟨r, rfl, hr0, hr1, hrc, hcell⟩ := T.row hn
  have x0 : w.cell? ⟨r, 0, none⟩ = some (.string (l.getD 0 default).name) := by simpa using (hcell 0 hn).1
  have x1 : w.cell? ⟨r, 1, none⟩ = some (.int .u64 (l.getD 0 default).many) := by simpa using (hcell 0 hn).2.1
  have x2 : w.cell? ⟨r, 2, none⟩ = some (.int .u64 (l.getD 0 default).over) := by simpa using (hcell 0 hn).2.2
  have hn1 : ¬ (n : Int) < 1 := by omega
  have hn2 : (0 : Int) < n := by omega
  generalize hX : l.getD 0 default = X0 at *
  have HX := Lib.hid hX
  clear hX
  go_enter Try.func31, Try.ntmps31
  go_wp2_with fail
  go_loopw [6] (fun i wr => ∃ j p : Nat, 1 ≤ j ∧ j ≤ n ∧ p < j ∧ i = .int .i64 j ∧ Hid (∀ q, q < j → (l.getD p default).many ≤ (l.getD q default).many) ∧ Below w.heap.size w wr ∧ Blk wr w.heap.size 35 #[.string ⟨#[]⟩, .int .u64 0, .int .u64 0] ∧ Blk wr (w.heap.size + 1) 35 #[.string (l.getD p default).name, .int .u64 (l.getD p default).many, .int .u64 (l.getD p default).over]) (fun i _ => n - (intOf i).toNat)
  case atStart =>
    refine ⟨1, 0, by omega, by omega, by omega, rfl, Lib.hid (fun q h => by have h0 : q = 0 := (by omega); rw [h0]; exact Nat.le_refl _), balloc (balloc (Below.refl _ _) _) _, ?_, ?_⟩
    · exact Blk.alloc (Blk.new w _ _) _
    · rw [HX.out]
      exact Blk.newAt (by simp) 
  case round =>
    obtain ⟨j, p, hj1, hj, hp, rfl, HM, hB, B4, B5⟩ := hrel
    have b4 := B4.lt
    have b5 := B5.lt
    by_cases hjn : j < n
    · obtain ⟨y0, y1, y2⟩ := hcell j hjn
      have e0 := (hB.cell (p := ⟨r, j * 3, none⟩) hr1).trans y0
      have e1 := (hB.cell (p := ⟨r, j * 3 + 1, none⟩) hr1).trans y1
      have e2 := (hB.cell (p := ⟨r, j * 3 + 2, none⟩) hr1).trans y2
      have d0 : wr.cell? ⟨w.heap.size + 1, 0, none⟩ = some (.string (l.getD p default).name) := B5.cellAt 0 rfl
      have d1 : wr.cell? ⟨w.heap.size + 1, 1, none⟩ = some (.int .u64 (l.getD p default).many) := B5.cellAt 1 rfl
      have d2 : wr.cell? ⟨w.heap.size + 1, 2, none⟩ = some (.int .u64 (l.getD p default).over) := B5.cellAt 2 rfl
      clear hcell
      generalize hXj : l.getD j default = X at *
      generalize hYj : l.getD p default = Y at *
      have HXj := Lib.hid hXj
      have HYj := Lib.hid hYj
      clear hXj hYj x0 x1 x2
      have hj2 : (j : Int) < n := by omega
      have hL := fun W => least1 X Y W
      by_cases hlt : X.many < Y.many
      · have hc : cmpN X.many Y.many = -1 := if_pos hlt
        rw [hc] at hL
        have HL := Lib.hid hlt
        have hHL := Lib.hid hL
        clear hlt hL hc
        go_upto_region 7 with fail
        go_region_held3 (fun w' => w'.cell? ⟨r, j * 3, none⟩ = some (.string X.name) ∧ w'.cell? ⟨r, j * 3 + 1, none⟩ = some (.int .u64 X.many) ∧ w'.cell? ⟨r, j * 3 + 2, none⟩ = some (.int .u64 X.over) ∧ w'.cell? ⟨w.heap.size + 1, 0, none⟩ = some (.string Y.name) ∧ w'.cell? ⟨w.heap.size + 1, 1, none⟩ = some (.int .u64 Y.many) ∧ w'.cell? ⟨w.heap.size + 1, 2, none⟩ = some (.int .u64 Y.over)) (first | exact ⟨e0, e1, e2, d0, d1, d2⟩ | exact ⟨(hB.cell (p := ⟨r, j * 3, none⟩) hr1).trans y0, (hB.cell (p := ⟨r, j * 3 + 1, none⟩) hr1).trans y1, (hB.cell (p := ⟨r, j * 3 + 2, none⟩) hr1).trans y2, B5.cellAt 0 rfl, B5.cellAt 1 rfl, B5.cellAt 2 rfl⟩)
          (first
            | (go_at_call 32; refine (hHL.out _).mono ?_; rintro e wA ⟨rfl, hb⟩; replace hB : Below w.heap.size w wA := (by first | exact bstep hb hB | exact bstep hb (bdrew hB)); replace B4 := Blk.step hb B4; replace B5 := Blk.step hb B5))
        all_goals
          have q0 := (hB.cell (p := ⟨r, j * 3, none⟩) hr1).trans y0
          have q1 := (hB.cell (p := ⟨r, j * 3 + 1, none⟩) hr1).trans y1
          have q2 := (hB.cell (p := ⟨r, j * 3 + 2, none⟩) hr1).trans y2
          obtain ⟨z0, z1, z2⟩ := B5.froz3 (.string X.name) (.int .u64 X.many)
          have r2 : r < wA.heap.size := Nat.lt_of_lt_of_le hr1 hB.size
          go_wp2_with fail
          go_roundw
          case rel =>
            refine ⟨j + 1, j, by omega, by omega, by omega, by go_num, Lib.hid (fun q hq => ?_), bset (bset (bset hB (by simp) _) (by simp) _) (by simp) _, ((B4.far (by simp) _).far (by simp) _).far (by simp) _, ?_⟩
            · rw [HXj.out]
              rcases Nat.lt_or_ge q j with h1 | h1
              · exact Nat.le_trans (Nat.le_of_lt HL.out) (HM.out q h1)
              · have h2 : q = j := by omega
                rw [h2, HXj.out]
                exact Nat.le_refl _
            · rw [HXj.out]
              exact B5.put3 _ _ _
          case measure => simp [intOf]; omega
      · have hc : ¬ cmpN X.many Y.many < 0 := by unfold cmpN; rw [if_neg hlt]; split <;> simp
        generalize cmpN X.many Y.many = rr at *
        have HL := Lib.hid hlt
        have hHL := Lib.hid hL
        clear hlt hL
        go_upto_region 7 with fail
        go_region_held3 (fun w' => w'.cell? ⟨r, j * 3, none⟩ = some (.string X.name) ∧ w'.cell? ⟨r, j * 3 + 1, none⟩ = some (.int .u64 X.many) ∧ w'.cell? ⟨r, j * 3 + 2, none⟩ = some (.int .u64 X.over) ∧ w'.cell? ⟨w.heap.size + 1, 0, none⟩ = some (.string Y.name) ∧ w'.cell? ⟨w.heap.size + 1, 1, none⟩ = some (.int .u64 Y.many) ∧ w'.cell? ⟨w.heap.size + 1, 2, none⟩ = some (.int .u64 Y.over)) (first | exact ⟨e0, e1, e2, d0, d1, d2⟩ | exact ⟨(hB.cell (p := ⟨r, j * 3, none⟩) hr1).trans y0, (hB.cell (p := ⟨r, j * 3 + 1, none⟩) hr1).trans y1, (hB.cell (p := ⟨r, j * 3 + 2, none⟩) hr1).trans y2, B5.cellAt 0 rfl, B5.cellAt 1 rfl, B5.cellAt 2 rfl⟩)
          (first
            | (go_at_call 32; refine (hHL.out _).mono ?_; rintro e wA ⟨rfl, hb⟩; replace hB : Below w.heap.size w wA := (by first | exact bstep hb hB | exact bstep hb (bdrew hB)); replace B4 := Blk.step hb B4; replace B5 := Blk.step hb B5))
        all_goals
          go_wp2_with fail
          go_roundw
          case rel =>
            refine ⟨j + 1, p, by omega, by omega, by omega, by go_num, Lib.hid (fun q hq => ?_), hB, B4, by rw [HYj.out]; exact B5⟩
            rw [HYj.out]
            rcases Nat.lt_or_ge q j with h1 | h1
            · exact HM.out q h1
            · have h2 : q = j := by omega
              rw [h2, HXj.out]
              exact Nat.le_of_not_lt HL.out
          case measure => simp [intOf]; omega
    · obtain rfl : j = n := by omega
      have d0 : wr.cell? ⟨w.heap.size + 1, 0, none⟩ = some (.string (l.getD p default).name) := B5.cellAt 0 rfl
      have d1 : wr.cell? ⟨w.heap.size + 1, 1, none⟩ = some (.int .u64 (l.getD p default).many) := B5.cellAt 1 rfl
      have d2 : wr.cell? ⟨w.heap.size + 1, 2, none⟩ = some (.int .u64 (l.getD p default).over) := B5.cellAt 2 rfl
      have hmem : l.getD p default ∈ l := by rw [it_get l p (by omega)]; exact List.getElem_mem _
      generalize l.getD p default = Y at *
      obtain ⟨z0, z1, z2⟩ := B4.froz3 (.string Y.name) (.int .u64 Y.many)
      have HE := Lib.hid hmem
      clear hcell hmem x0 x1 x2
      have B6 := B4.put3 (.string Y.name) (.int .u64 Y.many) (.int .u64 Y.over)
      have k0 : wr.cell? ⟨w.heap.size, 0, none⟩ = some (.string ⟨#[]⟩) := B4.cellAt 0 rfl
      have k1 : wr.cell? ⟨w.heap.size, 1, none⟩ = some (.int .u64 0) := B4.cellAt 1 rfl
      have k2 : wr.cell? ⟨w.heap.size, 2, none⟩ = some (.int .u64 0) := B4.cellAt 2 rfl
      have hBb : ∀ x y z, Below w.heap.size w (((wr.setCell ⟨w.heap.size, 0, none⟩ x).setCell ⟨w.heap.size, 1, none⟩ y).setCell ⟨w.heap.size, 2, none⟩ z) := fun x y z => bset (bset (bset hB (by simp) _) (by simp) _) (by simp) _
      go_wp2_with fail
      have m0 : (((wr.setCell ⟨w.heap.size, 0, none⟩ (.string Y.name)).setCell ⟨w.heap.size, 1, none⟩ (.int .u64 Y.many)).setCell ⟨w.heap.size, 2, none⟩ (.int .u64 Y.over)).cell? ⟨w.heap.size, 0, none⟩ = some (.string Y.name) := B6.cellAt 0 rfl
      have m1 : (((wr.setCell ⟨w.heap.size, 0, none⟩ (.string Y.name)).setCell ⟨w.heap.size, 1, none⟩ (.int .u64 Y.many)).setCell ⟨w.heap.size, 2, none⟩ (.int .u64 Y.over)).cell? ⟨w.heap.size, 1, none⟩ = some (.int .u64 Y.many) := B6.cellAt 1 rfl
      have m2 : (((wr.setCell ⟨w.heap.size, 0, none⟩ (.string Y.name)).setCell ⟨w.heap.size, 1, none⟩ (.int .u64 Y.many)).setCell ⟨w.heap.size, 2, none⟩ (.int .u64 Y.over)).cell? ⟨w.heap.size, 2, none⟩ = some (.int .u64 Y.over) := B6.cellAt 2 rfl
      have hB7 := hBb (.string Y.name) (.int .u64 Y.many) (.int .u64 Y.over)
      generalize (((wr.setCell ⟨w.heap.size, 0, none⟩ (.string Y.name)).setCell ⟨w.heap.size, 1, none⟩ (.int .u64 Y.many)).setCell ⟨w.heap.size, 2, none⟩ (.int .u64 Y.over)) = W7 at *
      refine bodyPost_ret (by simp [results, Try.results31, go_sem, m0, m1, m2]; try rfl) rfl ?_

      refine ⟨⟨Y, HE.out, fun y hy => ?_, rfl⟩, hB7⟩
      obtain ⟨q, hq, rfl⟩ := List.mem_iff_getElem.1 hy
      have := HM.out q (by omega)
      rwa [it_get l q hq] at this
end Go.Proofs.Ytcbheekfdhklcaa

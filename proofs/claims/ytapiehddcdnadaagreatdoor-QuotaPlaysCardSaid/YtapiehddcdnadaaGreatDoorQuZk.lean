/- The document's quota: New, Many, Admit, State. -/
import Derived.Test.YtapiehddcdnadaaGreatDoorQuZq
import Derived.Test.YtapiehddcdnadaaGreatDoorQuZr
import Derived.Test.YtapiehddcdnadaaGreatDoorM4
import Derived.Deep.CutBlock
import Derived.Deep.CutRange
namespace Go.Proofs.YtapiehddcdnadaaGreatDoor
open Go.RowKit
set_option linter.unusedVariables false
set_option linter.unusedSimpArgs false

set_option maxRecDepth 100000 in
set_option maxHeartbeats 4000000 in
theorem rqnew_no (p : PolN) (a : Option Addr) (n c : Nat) (xs : List Int) (window : Int) (w : World) (hx : Ints .i64 w a n xs) (hn : n ≤ 9223372036854775807) (hr : rightP p xs = false ∨ window < 0) :
    Calls Tryz.prog 8 #[polV p a n c, .int .i64 window] w fun e w' => e = .returned (.pointer none) ∧ Below w.heap.size w w' := by
  have HR := Lib.hid (fun W hW => rightR_call p a n c xs W hW hn)
  have HX := Lib.hid (fun o => hx.step (balloc (Below.refl _ w) o))
  generalize rightP p xs = R at *
  unfold polV at *
  clear hx
  cases R
  · clear hr
    go_enter Tryz.func8, Tryz.ntmps8
    go_wp2_with fail
    refine (HR.out _ (HX.out _)).mono ?_
    rintro e w1 ⟨rfl, b1⟩
    go_wp2_with fail
    go_ret
    exact ⟨rfl, bstep b1 (balloc (Below.refl _ _) _)⟩
  · have hlt : window < 0 := by simpa using hr
    clear hr
    go_enter Tryz.func8, Tryz.ntmps8
    go_wp2_with fail
    refine (HR.out _ (HX.out _)).mono ?_
    rintro e w1 ⟨rfl, b1⟩
    go_wp2_with fail
    go_ret
    exact ⟨rfl, bstep b1 (balloc (Below.refl _ _) _)⟩

set_option maxRecDepth 100000 in
set_option maxHeartbeats 4000000 in
theorem rqnew_yes (W : World) (p : PolN) (a : Option Addr) (n c : Nat) (xs : List Int) (window : Int) (w : World) (hW : Below W.heap.size W w) (hx : Ints .i64 w a n xs) (hn : n ≤ 9223372036854775807) (hr : rightP p xs = true) (h0 : 0 ≤ window) (h1 : window ≤ 9223372036854775807) :
    Calls Tryz.prog 8 #[polV p a n c, .int .i64 window] w fun e w' => ∃ g, e = .returned (.pointer (some ⟨g, 0, none⟩)) ∧ RZ W w' g (newQ p window) w' ∧ Below w.heap.size w w' ∧ w.heap.size ≤ g := by
  have HR := Lib.hid (fun W hW => rightR_call p a n c xs W hW hn)
  have HX := Lib.hid (fun o => hx.step (balloc (Below.refl _ w) o))
  have ok := right_ok hr
  rw [hr] at HR
  unfold polV at *
  clear hx hr
  have HWs := Lib.hid hW
  clear hW
  obtain ⟨slots, low, high, top, sketch, fine, idle, wd, late, future⟩ := p
  obtain ⟨o1, o2, o3, o4⟩ := ok
  simp only at o1 o2 o3 o4 HR
  obtain ⟨b, rfl⟩ : ∃ b : Nat, sketch = b := ⟨sketch.toNat, by omega⟩
  obtain ⟨rm, rfl⟩ : ∃ b : Nat, top = b := ⟨top.toNat, by omega⟩
  have hbc : Hid (b = 4 ∨ b = 5 ∨ b = 6 ∨ b = 7 ∨ b = 8 ∨ b = 9 ∨ b = 10) := Lib.hid (by omega)
  have HQ : Hid (newQ ⟨slots, low, high, (rm : Int), (b : Int), fine, idle, wd, late, future⟩ window = ⟨window, false, min low high, high, b, zerosN b, zerosN b, rm, 0, []⟩) := Lib.hid rfl
  rw [HQ.out]
  clear HQ
  have hw0 : ¬ window < 0 := by omega
  have u1 : IntKind.u64.wrap low = low := by simp [IntKind.wrap, IntKind.bits, IntKind.signed]; omega
  have u2 : IntKind.u64.wrap high = high := by simp [IntKind.wrap, IntKind.bits, IntKind.signed]; omega
  go_enter Tryz.func8, Tryz.ntmps8
  go_wp2_with fail
  refine (HR.out _ (HX.out _)).mono ?_
  rintro e w1 ⟨rfl, b1⟩
  have B := Blk.step b1 (Blk.new w 38 #[.int .i64 slots, .int .i64 low, .int .i64 high, .int .i64 rm, .int .i64 b, .int .i64 fine, .int .i64 idle, .int .i64 wd, .int .i64 late, .int .i64 future, .slice a n c])
  have bb := bstep b1 (balloc (Below.refl w.heap.size w) (.cells #[.int .i64 slots, .int .i64 low, .int .i64 high, .int .i64 rm, .int .i64 b, .int .i64 fine, .int .i64 idle, .int .i64 wd, .int .i64 late, .int .i64 future, .slice a n c] 38))
  clear b1 HR HX
  go_upto_region 4 with fail
  replace B := B.drew
  replace bb := bdrew bb
  have kl := B.lt
  go_region_held3 (fun w' => w'.cell? ⟨w.heap.size, 1, none⟩ = some (.int .i64 low) ∧ w'.cell? ⟨w.heap.size, 2, none⟩ = some (.int .i64 high) ∧ w'.cell? ⟨w.heap.size, 3, none⟩ = some (.int .i64 rm) ∧ w'.cell? ⟨w.heap.size, 4, none⟩ = some (.int .i64 b)) (first | exact ⟨B.cellAt 1 rfl, B.cellAt 2 rfl, B.cellAt 3 rfl, B.cellAt 4 rfl⟩ | exact ⟨(B.alloc _).cellAt 1 rfl, (B.alloc _).cellAt 2 rfl, (B.alloc _).cellAt 3 rfl, (B.alloc _).cellAt 4 rfl⟩)
    (first
      | (go_at_call 32; (have R0 := R1); ((with_reducible refine (RNew_yes b _ hbc.out).mono ?_); rintro e wB ⟨g2, y2, rfl, z3, z4, R2, b2⟩; have y12 : Hid (y1 ≠ y2) := Lib.hid (by have := R1.lt; omega); have hy2 : Hid (w.heap.size ≤ y2) := Lib.hid (by have := bb.size; omega); have R3 := Rf.step b2 R1; have B2 := Blk.step b2 B; have bb2 := bstep b2 bb; clear R0 R1 B bb b2 z3 z4; have R1 := R3; have B := B2; have bb := bb2; clear R3 B2 bb2))
      | (go_at_call 32; ((with_reducible refine (RNew_yes b _ hbc.out).mono ?_); rintro e wA ⟨g1, y1, rfl, z1, z2, R1, b2⟩; have hy1 : Hid (w.heap.size ≤ y1) := Lib.hid (by have := bb.size; omega); have B2 := Blk.step b2 B; have bb2 := bstep b2 bb; clear B bb b2 z1 z2; have B := B2; have bb := bb2; clear B2 bb2))
      | (go_at_call 33; ((with_reducible refine (rgnew_any low high _).mono ?_); rintro e wC ⟨rfl, b2⟩; have R1b := Rf.step b2 R1; have R2b := Rf.step b2 R2; have B2 := Blk.step b2 B; have bb2 := bstep b2 bb; clear B bb b2 R1 R2; have B := B2; have bb := bb2; have R1 := R1b; have R2 := R2b; clear B2 bb2 R1b R2b))
      | (go_at_call 34; ((with_reducible refine (rm_new (W := W) (base := W.heap.size) rm (by omega) (by omega) (HWs.out.trans (bb.mono HWs.out.size)) (Nat.le_refl _)).mono ?_); rintro e wD ⟨rfl, TM1, b2⟩; have hgt : Hid (wC.heap.size = wC.heap.size) := Lib.hid rfl; have R1b := Rf.step b2 R1; have R2b := Rf.step b2 R2; have B2 := Blk.step b2 B; have bb2 := bstep b2 bb; clear B bb b2 R1 R2; have B := B2; have bb := bb2; have R1 := R1b; have R2 := R2b; clear B2 bb2 R1b R2b)))
  go_wp2_with fail
  go_ret
  have hs1 := HWs.out.size
  have hs2 := bb.size
  have hm : 0 ≤ min low high := by omega
  have BW := HWs.out.trans (bb.mono HWs.out.size)
  have b9 : Below wD.heap.size wD (wD.alloc (.cells #[.int .i64 window, .pointer (some ⟨g1, 0, none⟩), .pointer (some ⟨g2, 0, none⟩), .bool false, .int .u64 (min low high), .int .u64 high, .pointer (some ⟨wC.heap.size, 0, none⟩)] 50)) := balloc (Below.refl _ _) _
  exact ⟨_, rfl, ⟨g1, g2, _, y1, y2, ⟨Blk.newAt rfl, Rf.step b9 R1, Rf.step b9 R2, TM1.step b9, by omega, by have := hy1.out; omega, by have := hy2.out; omega, ⟨h0, h1⟩, hm, FarR.refl _⟩, y12.out⟩, bstep b9 bb, hs2⟩

theorem rqmany {W w0 w : World} {g gn gb gt yn yb : Nat} {q : QS} (h : Rw W w0 g gn gb gt yn yb q.b q.b q w) : Calls Tryz.prog 21 #[.pointer (some ⟨g, 0, none⟩)] w fun e w' => e = .returned (.int .u64 (manyQ q)) ∧ Below w.heap.size w w' := by
  have k1 := h.c1
  have kl := h.blk.lt
  have HM : Hid (manyQ q = estI q.b (List.zipWith max (List.zipWith max (zeros q.b) q.rn) q.rb)) := Lib.hid rfl
  generalize manyQ q = M at *
  have HN := Lib.hid h.now
  have HB := Lib.hid h.bef
  have hbc := Lib.hid h.now.bits_cases
  have HK := Lib.hid h.blk
  clear h
  go_enter Tryz.func21, Tryz.ntmps21
  go_wp2_with fail
  refine (RBits_any gn yn q.b q.rn w HN.out).mono ?_
  rintro e w1 ⟨rfl, b1⟩
  go_wp2_with fail
  refine (RNew_yes q.b w1 hbc.out).mono ?_
  rintro e w2 ⟨gz, yz, rfl, z1, z2, S2, b2⟩
  have hb2 := Lib.hid (bstep b2 b1)
  have HN2 := Lib.hid (Rf.step hb2.out HN.out)
  have HB2 := Lib.hid (Rf.step hb2.out HB.out)
  have HK2 := Lib.hid (Blk.step hb2.out HK.out)
  have hs1 := b1.size
  have hne1 : Hid (yz ≠ yn) := Lib.hid (by have := HN.out.lt; omega)
  have hne2 : Hid (yz ≠ yb) := Lib.hid (by have := HB.out.lt; omega)
  have hnb1 : Hid (gb ≠ yz) := Lib.hid (by have := HB.out.lt; omega)
  have hnk : Hid (g ≠ yz) := Lib.hid (by omega)
  have hyz : Hid (w.heap.size ≤ yz) := Lib.hid (by omega)
  clear b1 b2 k1 kl hs1 z1 z2 HN HB HK
  have j1 : _ = some (Value.pointer (some ⟨gn, 0, none⟩)) := HK2.out.cellAt 1 rfl
  have jl := HK2.out.lt
  go_wp2_with fail
  refine (RMerge_yes gz yz q.b _ gn yn _ w2 S2 HN2.out hne1.out).mono ?_
  rintro e w3 ⟨rfl, S3, G3⟩
  have hb3 := Lib.hid (bgrown hb2.out G3 (fun k hk => by injection hk with hk; have := hyz.out; omega))
  have HB3 := Lib.hid (Rf.grown G3 HB2.out (by intro e; injection e with e; exact hnb1.out e) (by intro e; injection e with e; exact hne2.out e.symm))
  have HK3 := Lib.hid (Blk.grown G3 HK2.out (by intro e; injection e with e; exact hnk.out e))
  clear S2 G3 j1 jl HN2 HB2 HK2 hb2
  have j2 : _ = some (Value.pointer (some ⟨gb, 0, none⟩)) := HK3.out.cellAt 2 rfl
  have jl := HK3.out.lt
  go_wp2_with fail
  refine (RMerge_yes gz yz q.b _ gb yb _ w3 S3 HB3.out hne2.out).mono ?_
  rintro e w4 ⟨rfl, S4, G4⟩
  have hb4 := Lib.hid (bgrown hb3.out G4 (fun k hk => by injection hk with hk; have := hyz.out; omega))
  clear S3 G4 j2 jl HB3 HK3 hb3
  go_wp2_with fail
  refine (REstimate_any gz yz q.b _ w4 S4).mono ?_
  rintro e w5 ⟨rfl, b5⟩
  go_wp2_with fail
  go_ret
  exact ⟨ret_int HM.out.symm, bstep b5 hb4.out⟩

set_option maxRecDepth 100000 in
set_option maxHeartbeats 4000000 in
theorem rqadmit {W w0 w : World} {g gn gb gt yn yb : Nat} {q : QS} (key metric : ByteArray) (known full : Bool) (hk : key.size ≤ 7) (hm : metric.size ≤ 64) (h : Rw W w0 g gn gb gt yn yb q.b q.b q w) (hne : yn ≠ yb) :
    Calls Tryz.prog 23 #[.pointer (some ⟨g, 0, none⟩), .string key, .string metric, .bool known, .bool full] w fun e w' => e = .returned (.int .i64 (admitE q key known full)) ∧ Rw W w0 g gn gb gt yn yb q.b q.b (admitQ q key metric known full) w' := by
  have hms : (metric.size : Int) ≤ 64 := by omega
  have HNE := Lib.hid hne
  clear hne
  have HE : Hid (admitE q key known full = decideQ (seeQ (addQ q key)).closed known full) := Lib.hid rfl
  have HA : Hid (admitQ q key metric known full = if admitE q key known full = 0 then seeQ (addQ q key) else topQ (seeQ (addQ q key)) metric) := Lib.hid rfl
  generalize admitQ q key metric known full = Q at *
  generalize admitE q key known full = E at *
  have k1 := h.c1
  have kl := h.blk.lt
  have H := h
  clear h
  go_enter Tryz.func23, Tryz.ntmps23
  go_upto_region 3 with fail
  have A := H.drew
  go_region_held3 (fun w' => w'.cell? ⟨g, 1, none⟩ = some (.pointer (some ⟨gn, 0, none⟩))) (exact A.c1)
    (first
      | (go_at_call 63; ((with_reducible refine (sumR_call key _ hk).mono ?_); rintro e wA ⟨rfl, bA⟩; replace A := A.step bA; clear bA))
      | (go_at_call 62; ((with_reducible refine (RAdd_any gn yn q.b q.rn (sumN key) _ (sumI_nat key).2 A.now).mono ?_); rintro e wB ⟨rfl, hS, hG⟩; have A2 := A.now' HNE.out hS hG; clear hS hG A; have A := A2; clear A2)))
  go_wp2_with fail
  obtain ⟨bq, hbq⟩ : ∃ bq, bq = q.b := ⟨_, rfl⟩
  have HBQ : Hid (addQ q key = { q with rn := addR q.b q.rn (sumN key) }) := Lib.hid rfl
  have hqb : Hid ((addQ q key).b = q.b) := Lib.hid rfl
  rw [← HBQ.out] at A
  generalize addQ q key = q1 at *
  rw [← hqb.out] at A
  clear H k1 kl HBQ hbq
  have HS : Hid (seeQ q1 = { q1 with closed := q1.closed || decide (q1.high ≤ manyQ q1) }) := Lib.hid rfl
  generalize seeQ q1 = q2 at *
  have c3 := A.c3
  have c4 := A.c4
  have c5 := A.c5
  have kl := A.blk.lt
  have kf := A.blk.frozen
  have A0 := A.drew
  clear A
  go_region_with (first
    | (go_at_call 21; ((with_reducible refine (rqmany A0).mono ?_); rintro eC wC ⟨rfl, bB⟩; have A1 := A0.step bB; clear bB; have d3 := A1.c3; have d4 := A1.c4; have d5 := A1.c5; have dl := A1.blk.lt; have df := A1.blk.frozen))
    | (go_at_call 64; ((with_reducible refine (rgsee_any q1.closed q1.low q1.high (manyQ q1) _).mono ?_); rintro eD wD ⟨rfl, bC⟩; have A2 := A1.step bC; clear bC; have m3 := A2.c3; have m4 := A2.c4; have m5 := A2.c5; have ml := A2.blk.lt; have mf := A2.blk.frozen)))
  all_goals
    have A3 : Rw W w0 g gn gb gt yn yb q1.b q1.b q2 (((wD.setCell ⟨g, 3, none⟩ (.bool (q1.closed || decide (q1.high ≤ manyQ q1)))).setCell ⟨g, 4, none⟩ (.int .u64 q1.low)).setCell ⟨g, 5, none⟩ (.int .u64 q1.high)) := by
      rw [HS.out]
      exact A2.gate' _ q1.low q1.high A2.low0
    generalize (((wD.setCell ⟨g, 3, none⟩ (.bool (q1.closed || decide (q1.high ≤ manyQ q1)))).setCell ⟨g, 4, none⟩ (.int .u64 q1.low)).setCell ⟨g, 5, none⟩ (.int .u64 q1.high)) = w5 at *
    clear c3 c4 c5 kl kf d3 d4 d5 dl df m3 m4 m5 ml mf A0 A1 A2
    have c3 := A3.c3
    have kl := A3.blk.lt
    generalize hcl : q2.closed = cl at *
    cases known
    rotate_left
    · have hE : E = 0 := HE.out
      subst hE
      have HA2 : Hid (Q = q2) := Lib.hid (by rw [HA.out, if_pos rfl])
      clear HA HE
      go_wp2_with fail
      go_ret
      exact ⟨rfl, by rw [HA2.out, ← hqb.out]; exact A3⟩
    cases cl
    · cases full
      · have hE : E = 0 := HE.out
        subst hE
        have HA2 : Hid (Q = q2) := Lib.hid (by rw [HA.out, if_pos rfl])
        clear HA HE
        go_wp2_with fail
        go_ret
        exact ⟨rfl, by rw [HA2.out, ← hqb.out]; exact A3⟩
      · have hE : E = 4 := HE.out
        subst hE
        have HA2 : Hid (Q = topQ q2 metric) := Lib.hid (by rw [HA.out, if_neg (by decide)])
        clear HA HE
        have c6 := A3.c6
        go_wp2_with fail
        refine (rm_add_far metric 1 (by omega) hm A3.tm).mono ?_
        rintro e w7 ⟨rfl, T7, F7, s7⟩
        have A7 := A3.top' T7 F7 s7
        have c3b := A7.c3
        have klb := A7.blk.lt
        simp only [hcl] at c3b
        clear c6 c3 kl A3 T7 F7
        go_wp2_with fail
        go_ret
        exact ⟨rfl, by rw [HA2.out, ← hqb.out]; exact A7⟩
    · have hE : E = 10 := HE.out
      subst hE
      have HA2 : Hid (Q = topQ q2 metric) := Lib.hid (by rw [HA.out, if_neg (by decide)])
      clear HA HE
      have c6 := A3.c6
      go_wp2_with fail
      refine (rm_add_far metric 1 (by omega) hm A3.tm).mono ?_
      rintro e w7 ⟨rfl, T7, F7, s7⟩
      have A7 := A3.top' T7 F7 s7
      have c3b := A7.c3
      have klb := A7.blk.lt
      simp only [hcl] at c3b
      clear c6 c3 kl A3 T7 F7
      go_wp2_with fail
      go_ret
      exact ⟨rfl, by rw [HA2.out, ← hqb.out]; exact A7⟩
theorem rqadmit_long {w : World} {g : Nat} (key metric : ByteArray) (known full : Bool) (hm : 64 < metric.size) :
    Calls Tryz.prog 23 #[.pointer (some ⟨g, 0, none⟩), .string key, .string metric, .bool known, .bool full] w fun e w' => e = .returned (.int .i64 1) ∧ w = w' := by
  have hms : (64 : Int) < (metric.size : Int) := by omega
  clear hm
  go_enter Tryz.func23, Tryz.ntmps23
  go_wp2_with fail
  go_ret
  exact ⟨rfl, rfl⟩

/-- Items of the document's top, and what lies below is as it was. -/
theorem rm_told {W w : World} {base h room s : Nat} {L : List It} (H : RM W base h room s L w) :
    Calls Tryz.prog 54 #[.pointer (some ⟨h, 0, none⟩)] w fun e w' => ∃ A n c t, e = .returned (.slice A n c) ∧ Told L t ∧ n ≤ 16 ∧ RIts w' w.heap.size A n c t ∧ Below w.heap.size w w' := by
  obtain ⟨A, n, c, R, I, hB, hW⟩ := H
  refine (ritems_call R).mono ?_
  rintro e w1 ⟨A', c', t, rfl, hT, hI, hb⟩
  have h1 := hT.len
  have h2 := hI.len
  have h3 := I.len
  have h4 := R.rm
  exact ⟨A', _, c', t, rfl, hT, by omega, hI, hb⟩
theorem Rw.other {W w0 w w' : World} {g gn gb gt yn yb bn bb : Nat} {q : QS} (h : Rw W w0 g gn gb gt yn yb bn bb q w) {b : Nat} {t : TypeId} {cs : Array Value} (hB : Blk w b t cs) (h1 : t ≠ 50) (h2 : t ≠ 96) (h3 : t ≠ 54) (h4 : t ≠ 109) (h5 : t ≠ 3) (hb : W.heap.size ≤ b) (hG : w.grownBy w' (some b)) : Rw W w' g gn gb gt yn yb bn bb q w' :=
  ⟨Blk.grown hG h.blk (by intro e; injection e with e; exact hB.ne_ h.blk h1 e.symm), h.now.grown hG (by intro e; injection e with e; exact hB.ne_ h.now.blk h2 e.symm) (by intro e; injection e with e; exact hB.ne_ h.now.row h5 e.symm), h.bef.grown hG (by intro e; injection e with e; exact hB.ne_ h.bef.blk h2 e.symm) (by intro e; injection e with e; exact hB.ne_ h.bef.row h5 e.symm), h.tm.grown hB h3 h4 hb hG, h.g0, h.yn0, h.yb0, h.win0, h.low0, FarR.refl _⟩
def RStatePost (w : World) (q : QS) (e : Ending) (w' : World) : Prop := ∃ A n c bs s, e = .returned (stateV q A n c) ∧ Told q.l s ∧ n ≤ 16 ∧ RIts w' bs A n c s ∧ Below w.heap.size w w'
set_option maxRecDepth 100000 in
set_option maxHeartbeats 4000000 in
theorem rqstate {W w0 w : World} {g gn gb gt yn yb : Nat} {q : QS} (h : Rw W w0 g gn gb gt yn yb q.b q.b q w) :
    Calls Tryz.prog 18 #[.pointer (some ⟨g, 0, none⟩)] w (RStatePost w q) := by
  have HR1 : Hid (∀ W : World, Rf W gn yn q.b q.rn → Calls Tryz.prog 53 #[.pointer (some ⟨gn, 0, none⟩)] W fun e w' => e = .returned (.string (strOfNums q.rn)) ∧ Below W.heap.size W w') := Lib.hid (fun W hW => RRegisters_any gn yn q.b q.rn W hW)
  have HR2 : Hid (∀ W : World, Rf W gb yb q.b q.rb → Calls Tryz.prog 53 #[.pointer (some ⟨gb, 0, none⟩)] W fun e w' => e = .returned (.string (strOfNums q.rb)) ∧ Below W.heap.size W w') := Lib.hid (fun W hW => RRegisters_any gb yb q.b q.rb W hW)
  have HP : Hid (∀ e w', RStatePost w q e w' ↔ ∃ A n c bs s, e = .returned (.agg #[.int .i64 q.win, .bool q.closed, .string (strOfNums q.rn), .string (strOfNums q.rb), .int .u64 q.seen, .slice A n c]) ∧ Told q.l s ∧ n ≤ 16 ∧ RIts w' bs A n c s ∧ Below w.heap.size w w') := Lib.hid (fun e w' => Iff.rfl)
  generalize RStatePost w q = PP at *
  generalize strOfNums q.rn = s1 at *
  generalize strOfNums q.rb = s2 at *
  have HW : Hid (W.heap.size ≤ w.heap.size) := Lib.hid h.below.size
  have HQ : Hid (Rw W w0 g gn gb gt yn yb q.b q.b q w) := Lib.hid h
  clear h
  go_enter Tryz.func18, Tryz.ntmps18
  go_upto_region 1 with fail
  have B := Blk.new w 64 #[.int .i64 0, .bool false, .string ⟨#[]⟩, .string ⟨#[]⟩, .int .u64 0, .slice none 0 0]
  have A := HQ.out.step (balloc (Below.refl _ w) (.cells #[.int .i64 0, .bool false, .string ⟨#[]⟩, .string ⟨#[]⟩, .int .u64 0, .slice none 0 0] 64))
  have bb := balloc (Below.refl w.heap.size w) (.cells #[.int .i64 0, .bool false, .string ⟨#[]⟩, .string ⟨#[]⟩, .int .u64 0, .slice none 0 0] 64)
  clear HQ
  generalize (w.alloc (.cells #[.int .i64 0, .bool false, .string ⟨#[]⟩, .string ⟨#[]⟩, .int .u64 0, .slice none 0 0] 64)) = w1 at *
  replace B := B.drew
  replace A := A.drew
  replace bb := bdrew bb
  go_region_held3 (fun w' => w'.cell? ⟨g, 0, none⟩ = some (.int .i64 q.win) ∧ w'.cell? ⟨g, 1, none⟩ = some (.pointer (some ⟨gn, 0, none⟩)) ∧ w'.cell? ⟨g, 2, none⟩ = some (.pointer (some ⟨gb, 0, none⟩)) ∧ w'.cell? ⟨g, 3, none⟩ = some (.bool q.closed) ∧ w'.cell? ⟨g, 6, none⟩ = some (.pointer (some ⟨gt, 0, none⟩)) ∧ w'.cell? ⟨gt, 2, none⟩ = some (.int .u64 q.seen)) (first | (with_reducible exact ⟨A.c0, A.c1, A.c2, A.c3, A.c6, A.tm.cell.1⟩) | exact ⟨A3.c0, A3.c1, A3.c2, A3.c3, A3.c6, A3.tm.cell.1⟩)
    (first
      | (go_at_call 53; ((with_reducible refine (HR1.out _ A.now).mono ?_); rintro eA wA ⟨rfl, Rb⟩; have A2 := A.step Rb; have B2 := Blk.step Rb B; have bb2 := bstep Rb bb; clear A B bb Rb; have A := A2; have B := B2; have bb := bb2; clear A2 B2 bb2))
      | (go_at_call 53; ((with_reducible refine (HR2.out _ A.bef).mono ?_); rintro eB wB ⟨rfl, Rb⟩; have A2 := A.step Rb; have B2 := Blk.step Rb B; have bb2 := bstep Rb bb; clear A B bb Rb; have A := A2; have B := B2; have bb := bb2; clear A2 B2 bb2))
      | (go_at_call 54; ((with_reducible refine (rm_told A.tm).mono ?_); rintro eC wC ⟨RA, Rn, Rc, Rs, rfl, RT, Rn16, RI, Rb⟩; have A2 := A.step Rb; have B2 := Blk.step Rb B; have bb2 := bstep Rb bb; clear A B bb; have A := A2; have B := B2; have bb := bb2; clear A2 B2 bb2 Rb; have kl := B.lt; have kf := B.frozen; have k0 := B.cell; have A3 := A.other B (by decide) (by decide) (by decide) (by decide) (by decide) HW.out (set6_grown wC w.heap.size (.int .i64 q.win) (.bool q.closed) (.string s1) (.string s2) (.int .u64 q.seen) (.slice RA Rn Rc)))))
  have B6 := B.set6 (.int .i64 q.win) (.bool q.closed) (.string s1) (.string s2) (.int .u64 q.seen) (.slice RA Rn Rc)
  have G6 := set6_grown wC w.heap.size (.int .i64 q.win) (.bool q.closed) (.string s1) (.string s2) (.int .u64 q.seen) (.slice RA Rn Rc)
  have I6 : RIts (set6 wC w.heap.size (.int .i64 q.win) (.bool q.closed) (.string s1) (.string s2) (.int .u64 q.seen) (.slice RA Rn Rc)) _ RA Rn Rc Rs := ⟨RI.own.kept G6 (.inr (fun e => RI.far B (by decide) e.symm))⟩
  have b6 := bgrown bb G6 (fun k hk => by injection hk with hk; omega)
  change Exit.then _ _ _ _ (set6 wC w.heap.size (.int .i64 q.win) (.bool q.closed) (.string s1) (.string s2) (.int .u64 q.seen) (.slice RA Rn Rc))
  clear A A3 B k0 kf kl G6 RI bb
  generalize (set6 wC w.heap.size (.int .i64 q.win) (.bool q.closed) (.string s1) (.string s2) (.int .u64 q.seen) (.slice RA Rn Rc)) = w9 at *
  have CP := B6.cell
  go_wp2_with fail
  refine bodyPost_ret (v := .agg #[.int .i64 q.win, .bool q.closed, .string s1, .string s2, .int .u64 q.seen, .slice RA Rn Rc]) (by simp [results, Tryz.results18, go_sem, CP]) rfl ?_
  exact (HP.out _ _).2 ⟨RA, Rn, Rc, _, Rs, rfl, RT, Rn16, I6, b6⟩
end Go.Proofs.YtapiehddcdnadaaGreatDoor

/- QuotaPlays: the round of Roll. -/
import Derived.Test.YtapiehddcdnadaaGreatDoorQuZ7
import Derived.BigQuiet
import Derived.Deep.RegionHeldLaw
import Derived.Deep.CutBlock
import Derived.Deep.CutRange
import Derived.Deep.MidRow
import Derived.Deep.WholeRow
import Derived.Laws.Tables
namespace Go.Proofs.YtapiehddcdnadaaGreatDoor
open Go.RowKit
set_option linter.unusedVariables false
set_option linter.unusedSimpArgs false

theorem setRow_blk {w : World} {g : Nat} {t : TypeId} {cs : Array Value} (h : Blk w g t cs) (cs' : Array Value) : Blk (w.setRow g cs') g t cs' := setRow_heap w g cs cs' t (0, 0) h
theorem setRow_grown (w : World) (g : Nat) (cs' : Array Value) : w.grownBy (w.setRow g cs') (some g) :=
  ⟨rfl, rfl, rfl, by simp [World.setRow], fun i hi hne => by
    have hg : g ≠ i := fun e => hne (by rw [e])
    simp [World.setRow, Array.getElem?_modify, hg]⟩
set_option maxRecDepth 1000000 in
set_option maxHeartbeats 8000000 in
theorem round_roll (near : Bool) (b off n2 c2 : Nat) (w wr : World) (g x gp : Nat) (Q0 : Exit → Act → World → Prop) (u0 u1 u4 u5 u6 u7 u8 u12 u15 u16 u17 u18 u19 u20 u21 u22 u23 u24 u25 u26 u27 u28 u29 u30 u31 u32 u33 u34 u35 u36 u37 u38 u39 u40 u41 u42 u43 u44 u45 u46 u47 u48 u49 u50 u51 u52 u53 u54 u55 u56 u57 u58 u59 u60 u61 u62 u63 u64 u65 u66 u67 u68 u69 u70 u71 u72 u73 u74 u75 u76 u77 u78 u79 u80 u81 u82 u83 u84 u85 u86 u87 u88 u89 u90 u91 u92 u93 u94 u95 u96 u97 u98 u99 u100 u101 u102 u103 u104 u105 u106 u107 u108 u109 u110 u111 u112 u113 u114 u115 u116 u117 u118 u119 u120 u121 u122 u123 u124 u125 u126 u127 u128 u129 u130 u131 u132 u133 u134 u135 u136 u137 u138 u139 u140 u141 u142 u143 u144 u145 u146 u147 u148 u149 u150 u151 u152 u153 u154 u155 u156 u157 u158 u159 u160 u161 u162 u163 u164 u165 u166 u167 u168 u169 u170 u171 u172 u173 u174 u175 u176 u177 u178 u179 u180 u181 u182 u183 u184 u185 u186 u187 u188 u189 u190 u191 u192 u193 u194 u195 u196 u197 u198 u199 u200 u201 u202 u203 u204 u205 u206 u207 u208 u209 u210 u211 u212 u213 u214 u215 u216 u217 u218 u219 u220 u221 u222 u223 u224 u225 u226 u227 u228 u229 u230 u231 u232 u233 u234 u235 u236 u237 : Value) (j : Nat) (q : QS) (U : PolN) (AU : Option Addr) (nU cU : Nat) (tU : List Int) (kind k : Int) (s : ByteArray) (known full : Bool) (by_ : Int) (dp : PolN) (dta : Option Addr) (dtn dtc : Nat) (dts : List Int) (down : Bool) (da : Option Addr) (dn dc : Nat) (dxs : List Int) (hT : Tab w) (hj1 : j < n2) (hj2 : j < 80) (hn2 : n2 ≤ 9223372036854775807) (hPX : PX w g x q q wr) (hBQ : BackQQ q) (hBU : Blk wr gp 24 #[.int .i64 U.slots, .int .i64 U.low, .int .i64 U.high, .int .i64 U.top, .int .i64 U.sketch, .int .i64 U.fine, .int .i64 U.idle, .int .i64 U.window, .int .i64 U.late, .int .i64 U.future, .slice AU nU cU]) (hTU : TierQ w wr AU nU tU) (hRU : rightP U tU = true) (hgp : w.heap.size ≤ gp) (hb : b < wr.heap.size) (f0 : 0 ≤ kind ∧ kind ≤ 255) (f1 : 0 ≤ k ∧ k ≤ 255) (f2 : s.size ≤ 9223372036854775807) (f3 : -9223372036854775808 ≤ by_ ∧ by_ ≤ 9223372036854775807) (f5 : Ints .i64 w dta dtn dts) (f6 : dtn ≤ 9223372036854775807) (f7 : Ints .u16 w da dn dxs) (f8 : dn ≤ 9223372036854775807) (HC : Hid (∀ i u, ([.int .u8 kind, .int .u8 k, .string s, .bool known, .bool full, .int .i64 by_, .int .i64 dp.slots, .int .i64 dp.low, .int .i64 dp.high, .int .i64 dp.top, .int .i64 dp.sketch, .int .i64 dp.fine, .int .i64 dp.idle, .int .i64 dp.window, .int .i64 dp.late, .int .i64 dp.future, .slice dta dtn dtc, .bool down, .slice da dn dc] : List Value)[i]? = some u → wr.cell? ⟨b, off + j * 19 + i, none⟩ = some u))
    (kd : Int) (hkd : kind % 13 = kd) (hk : kd = 10 ∨ kd = 11) :
    Code.wp Tryz.prog bodyQ (Exit.then (fun a' w'' => WI near (some ⟨b, off, none⟩) n2 c2 w g x gp a' w'' ∧ Wmu n2 a' w'' < Wmu n2 ⟨#[u0, u1, .bool near, .slice (some ⟨b, off, none⟩) n2 c2, u4, u5, u6, u7, u8, .bool true, .pointer (some ⟨gp, 0, none⟩), .pointer (some ⟨g, 0, none⟩), u12, .pointer (some ⟨x, 0, none⟩), .int .i64 (j : Nat), u15, u16, u17, u18, u19, u20, u21, u22, u23, u24, u25, u26, u27, u28, u29, u30, u31, u32, u33, u34, u35, u36, u37, u38, u39, u40, u41, u42, u43, u44, u45, u46, u47, u48, u49, u50, u51, u52, u53, u54, u55, u56, u57, u58, u59, u60, u61, u62, u63, u64, u65, u66, u67, u68, u69, u70, u71, u72, u73, u74, u75, u76, u77, u78, u79, u80, u81, u82, u83, u84, u85, u86, u87, u88, u89, u90, u91, u92, u93, u94, u95, u96, u97, u98, u99, u100, u101, u102, u103, u104, u105, u106, u107, u108, u109, u110, u111, u112, u113, u114, u115, u116, u117, u118, u119, u120, u121, u122, u123, u124, u125, u126, u127, u128, u129, u130, u131, u132, u133, u134, u135, u136, u137, u138, u139, u140, u141, u142, u143, u144, u145, u146, u147, u148, u149, u150, u151, u152, u153, u154, u155, u156, u157, u158, u159, u160, u161, u162, u163, u164, u165, u166, u167, u168, u169, u170, u171, u172, u173, u174, u175, u176, u177, u178, u179, u180, u181, u182, u183, u184, u185, u186, u187, u188, u189, u190, u191, u192, u193, u194, u195, u196, u197, u198, u199, u200, u201, u202, u203, u204, u205, u206, u207, u208, u209, u210, u211, u212, u213, u214, u215, u216, u217, u218, u219, u220, u221, u222, u223, u224, u225, u226, u227, u228, u229, u230, u231, u232, u233, u234, u235, u236, u237], []⟩ wr) Q0) ⟨#[u0, u1, .bool near, .slice (some ⟨b, off, none⟩) n2 c2, u4, u5, u6, u7, u8, .bool true, .pointer (some ⟨gp, 0, none⟩), .pointer (some ⟨g, 0, none⟩), u12, .pointer (some ⟨x, 0, none⟩), .int .i64 (j : Nat), u15, u16, u17, u18, u19, u20, u21, u22, u23, u24, u25, u26, u27, u28, u29, u30, u31, u32, u33, u34, u35, u36, u37, u38, u39, u40, u41, u42, u43, u44, u45, u46, u47, u48, u49, u50, u51, u52, u53, u54, u55, u56, u57, u58, u59, u60, u61, u62, u63, u64, u65, u66, u67, u68, u69, u70, u71, u72, u73, u74, u75, u76, u77, u78, u79, u80, u81, u82, u83, u84, u85, u86, u87, u88, u89, u90, u91, u92, u93, u94, u95, u96, u97, u98, u99, u100, u101, u102, u103, u104, u105, u106, u107, u108, u109, u110, u111, u112, u113, u114, u115, u116, u117, u118, u119, u120, u121, u122, u123, u124, u125, u126, u127, u128, u129, u130, u131, u132, u133, u134, u135, u136, u137, u138, u139, u140, u141, u142, u143, u144, u145, u146, u147, u148, u149, u150, u151, u152, u153, u154, u155, u156, u157, u158, u159, u160, u161, u162, u163, u164, u165, u166, u167, u168, u169, u170, u171, u172, u173, u174, u175, u176, u177, u178, u179, u180, u181, u182, u183, u184, u185, u186, u187, u188, u189, u190, u191, u192, u193, u194, u195, u196, u197, u198, u199, u200, u201, u202, u203, u204, u205, u206, u207, u208, u209, u210, u211, u212, u213, u214, u215, u216, u217, u218, u219, u220, u221, u222, u223, u224, u225, u226, u227, u228, u229, u230, u231, u232, u233, u234, u235, u236, u237], []⟩ wr := by
  have HT := Lib.hid hT
  have HPX := Lib.hid hPX
  have HBQ := Lib.hid hBQ
  have HBU := Lib.hid hBU
  have HTU := Lib.hid hTU
  have HRU := Lib.hid hRU
  have HF5 := Lib.hid f5
  have HF7 := Lib.hid f7
  clear hT hPX hBQ hBU hTU hRU f5 f7
  have e1 : (j : Int) < n2 := by omega
  have e3 : (j : Int) < 80 := by omega
  have t13 : kind.tmod 13 = kd := by rw [Int.tmod_eq_emod_of_nonneg f0.1]; exact hkd
  have hkr : 0 ≤ kd ∧ kd < 13 := by omega
  clear hkd
  conv => arg 2; whnf
  go_upto_region 16 with fail
  have hbl := hb
  refine wp_region_lit ?_
  iterate 3 (refine wpList_plain rfl (fun K hK => ?_); go_simp; refine hK _ _ ?_; clear hK K)
  refine wpList_load_mid rfl 41 (.tmp 73) rfl b (off + j * 19) (by simp [Act.eval, Act.put]) [.int .u8 kind, .int .u8 k, .string s, .bool known, .bool full, .int .i64 by_, .int .i64 dp.slots, .int .i64 dp.low, .int .i64 dp.high, .int .i64 dp.top, .int .i64 dp.sketch, .int .i64 dp.fine, .int .i64 dp.idle, .int .i64 dp.window, .int .i64 dp.late, .int .i64 dp.future, .slice dta dtn dtc, .bool down, .slice da dn dc] _ (fun i u hu => HC.out i u hu) Tryz.underlying41 rfl (by kernel_rfl) ?_
  refine wpList_plain rfl (fun K hK => ?_)
  go_simp
  refine hK _ _ ?_
  clear hK K
  refine wpList_store_row rfl 41 (.tmp 15) (.tmp 74) rfl wr.heap.size #[.int .u8 kind, .int .u8 k, .string s, .bool known, .bool full, .int .i64 by_, .int .i64 dp.slots, .int .i64 dp.low, .int .i64 dp.high, .int .i64 dp.top, .int .i64 dp.sketch, .int .i64 dp.fine, .int .i64 dp.idle, .int .i64 dp.window, .int .i64 dp.late, .int .i64 dp.future, .slice dta dtn dtc, .bool down, .slice da dn dc] (by simp [Act.eval, Act.put]) (by simp [Act.eval, Act.put]) 41 _ (Blk.new wr _ _) (by kernel_rfl) rfl (by simp [Value.oneCell']) ?_
  rw [World.setRow_alloc_new]
  go_upto_region 17 with fail
  have hbW := Lib.hid HPX.out.below
  have BD := Lib.hid (Blk.new wr 41 #[.int .u8 kind, .int .u8 k, .string s, .bool known, .bool full, .int .i64 by_, .int .i64 dp.slots, .int .i64 dp.low, .int .i64 dp.high, .int .i64 dp.top, .int .i64 dp.sketch, .int .i64 dp.fine, .int .i64 dp.idle, .int .i64 dp.window, .int .i64 dp.late, .int .i64 dp.future, .slice dta dtn dtc, .bool down, .slice da dn dc])
  have HP := Lib.hid (HPX.out.step (balloc (Below.refl _ wr) (.cells #[.int .u8 kind, .int .u8 k, .string s, .bool known, .bool full, .int .i64 by_, .int .i64 dp.slots, .int .i64 dp.low, .int .i64 dp.high, .int .i64 dp.top, .int .i64 dp.sketch, .int .i64 dp.fine, .int .i64 dp.idle, .int .i64 dp.window, .int .i64 dp.late, .int .i64 dp.future, .slice dta dtn dtc, .bool down, .slice da dn dc] 41)))
  have BU := Lib.hid (HBU.out.alloc (.cells #[.int .u8 kind, .int .u8 k, .string s, .bool known, .bool full, .int .i64 by_, .int .i64 dp.slots, .int .i64 dp.low, .int .i64 dp.high, .int .i64 dp.top, .int .i64 dp.sketch, .int .i64 dp.fine, .int .i64 dp.idle, .int .i64 dp.window, .int .i64 dp.late, .int .i64 dp.future, .slice dta dtn dtc, .bool down, .slice da dn dc] 41))
  have TU := Lib.hid (HTU.out.step (balloc (Below.refl _ wr) (.cells #[.int .u8 kind, .int .u8 k, .string s, .bool known, .bool full, .int .i64 by_, .int .i64 dp.slots, .int .i64 dp.low, .int .i64 dp.high, .int .i64 dp.top, .int .i64 dp.sketch, .int .i64 dp.fine, .int .i64 dp.idle, .int .i64 dp.window, .int .i64 dp.late, .int .i64 dp.future, .slice dta dtn dtc, .bool down, .slice da dn dc] 41)))
  clear HPX HBU HTU HC hb
  generalize (wr.alloc (.cells #[.int .u8 kind, .int .u8 k, .string s, .bool known, .bool full, .int .i64 by_, .int .i64 dp.slots, .int .i64 dp.low, .int .i64 dp.high, .int .i64 dp.top, .int .i64 dp.sketch, .int .i64 dp.fine, .int .i64 dp.idle, .int .i64 dp.window, .int .i64 dp.late, .int .i64 dp.future, .slice dta dtn dtc, .bool down, .slice da dn dc] 41)) = w7 at *
  generalize wr.heap.size = gd at *
  have M0 : _ = some (Value.int .u8 kind) := BD.out.cellAt 0 rfl
  have ML := BD.out.lt
  go_upto_if 111 with fail
  clear M0 ML
  go_cut [111] from 112 (fun v wx => v = .bool true ∧ wx = w7)
  case first =>
    rcases hk with hk | hk
    · have k10 : (kd == 10) = true := by simp [hk]
      clear hk
      go_wp2_with fail
      go_meet
      exact ⟨by rw [k10], rfl⟩
    · have k10 : (kd == 10) = false := by simp [hk]
      have k11 : (kd == 11) = true := by simp [hk]
      clear hk
      go_wp2_with fail
      go_meet
      exact ⟨by first | rfl | rw [k11], rfl⟩
  case rest =>
  obtain ⟨rfl, rfl⟩ := hcut
  have CWI := Lib.hid (wish_tq w dp dta dtn dtc dts down da dn dc dxs wc HP.out.below HF5.out f6 HF7.out f8)
  unfold wishV at CWI
  have MC := BD.out.cell
  have ML := BD.out.lt
  go_wp2_with fail
  refine CWI.out.mono ?_
  clear CWI
  rintro e w8 ⟨V, AV, nV, cV, tV, rfl, tq, b8⟩
  unfold polV
  have b89 := bstep (balloc (Below.refl w8.heap.size w8) (.cells #[.int .i64 V.slots, .int .i64 V.low, .int .i64 V.high, .int .i64 V.top, .int .i64 V.sketch, .int .i64 V.fine, .int .i64 V.idle, .int .i64 V.window, .int .i64 V.late, .int .i64 V.future, .slice AV nV cV] 24)) b8
  have BN := Lib.hid (Blk.new w8 24 #[.int .i64 V.slots, .int .i64 V.low, .int .i64 V.high, .int .i64 V.top, .int .i64 V.sketch, .int .i64 V.fine, .int .i64 V.idle, .int .i64 V.window, .int .i64 V.late, .int .i64 V.future, .slice AV nV cV])
  have TV := Lib.hid (tq.step (balloc (Below.refl w8.heap.size w8) (.cells #[.int .i64 V.slots, .int .i64 V.low, .int .i64 V.high, .int .i64 V.top, .int .i64 V.sketch, .int .i64 V.fine, .int .i64 V.idle, .int .i64 V.window, .int .i64 V.late, .int .i64 V.future, .slice AV nV cV] 24)))
  have BD9 := Lib.hid (Blk.step b89 BD.out)
  have HP9 := Lib.hid (HP.out.step b89)
  have BU9 := Lib.hid (Blk.step b89 BU.out)
  have TU9 := Lib.hid (TU.out.step b89)
  clear MC ML BD HP BU TU tq b8 b89
  go_upto_region 27 with fail
  generalize (w8.alloc (.cells #[.int .i64 V.slots, .int .i64 V.low, .int .i64 V.high, .int .i64 V.top, .int .i64 V.sketch, .int .i64 V.fine, .int .i64 V.idle, .int .i64 V.window, .int .i64 V.late, .int .i64 V.future, .slice AV nV cV] 24)) = w9 at *
  generalize w8.heap.size = gn at *
  have M5 : _ = some (Value.int .i64 by_) := BD9.out.cellAt 5 rfl
  have ML := BD9.out.lt
  go_upto_if 119 with fail
  go_cut [17] from 18 (fun v wx => ∃ tw : Int, v = .int .i64 tw ∧ tw ≤ 9223372036854775807 ∧ PX w g x q q wx ∧ Blk wx gd 41 #[.int .u8 kind, .int .u8 k, .string s, .bool known, .bool full, .int .i64 by_, .int .i64 dp.slots, .int .i64 dp.low, .int .i64 dp.high, .int .i64 dp.top, .int .i64 dp.sketch, .int .i64 dp.fine, .int .i64 dp.idle, .int .i64 dp.window, .int .i64 dp.late, .int .i64 dp.future, .slice dta dtn dtc, .bool down, .slice da dn dc] ∧ Blk wx gp 24 #[.int .i64 U.slots, .int .i64 U.low, .int .i64 U.high, .int .i64 U.top, .int .i64 U.sketch, .int .i64 U.fine, .int .i64 U.idle, .int .i64 U.window, .int .i64 U.late, .int .i64 U.future, .slice AU nU cU] ∧ Blk wx gn 24 #[.int .i64 V.slots, .int .i64 V.low, .int .i64 V.high, .int .i64 V.top, .int .i64 V.sketch, .int .i64 V.fine, .int .i64 V.idle, .int .i64 V.window, .int .i64 V.late, .int .i64 V.future, .slice AV nV cV] ∧ TierQ w wx AU nU tU ∧ TierQ w wx AV nV tV)
  case first =>
    as_aux_lemma =>
    cases near
    · go_wp2_with fail
      go_meet
      exact ⟨by_, rfl, f3.2, HP9.out, BD9.out, BU9.out, BN.out, TU9.out, TV.out⟩
    · obtain ⟨wq, hwq⟩ : ∃ M, q.win = M := ⟨_, rfl⟩
      have CW : Hid (∀ n, Calls Tryz.prog 10 #[.pointer (some ⟨g, 0, none⟩)] (w9.drewN n) fun e w' => e = .returned (.int .i64 wq) ∧ w9.drewN n = w') := Lib.hid (fun n => by rw [← hwq]; exact q_window (HP9.out.step (bdrewN (Below.refl _ _) n)).1)
      obtain ⟨r4, hr4⟩ : ∃ r, by_.tmod 4 = r := ⟨_, rfl⟩
      obtain ⟨tw, hto⟩ : ∃ r, IntKind.i64.wrap (wq + r4) = r := ⟨_, rfl⟩
      have hto2 : Hid (tw ≤ 9223372036854775807) := Lib.hid (by rw [← hto]; simp [IntKind.wrap, IntKind.bits, IntKind.signed]; omega)
      clear hwq
      go_upto_region 29 with fail
      go_quiet ((go_at_call 10; exact Calls.quiet_of_same ((CW.out _).mono (fun e w' h => ⟨h.1, h.2.symm⟩))))
      have bn := bdrewN (Below.refl w9.heap.size w9) nq
      go_wp2_with fail
      go_meet
      exact ⟨tw, rfl, hto2.out, HP9.out.step bn, Blk.step bn BD9.out, Blk.step bn BU9.out, Blk.step bn BN.out, TU9.out.step bn, TV.out.step bn⟩
  case rest =>
  clear HP9 BD9 BU9 BN TU9 TV M5 ML
  obtain ⟨tw, rfl, hto, hp, bd, bu, bn, tu, tv⟩ := hcut
  have HTO := Lib.hid hto
  clear hto
  have HP := Lib.hid hp
  have BD := Lib.hid bd
  have BU := Lib.hid bu
  have BN := Lib.hid bn
  have TU := Lib.hid tu
  have TV := Lib.hid tv
  clear hp bd bu bn tu tv
  obtain ⟨RV, hRV⟩ : ∃ R, rightP V tV = R := ⟨_, rfl⟩
  obtain ⟨qz, hqz⟩ : ∃ qz, rollQ q V (rightP V tV) tw = qz := ⟨_, rfl⟩
  obtain ⟨E, hE⟩ : ∃ E, rollE q (rightP V tV) tw = E := ⟨_, rfl⟩
  have HBQz : Hid (BackQQ qz) := Lib.hid (by rw [← hqz]; exact back_roll HBQ.out _ _ _)
  have CR1 : Hid (∀ X, PX w g x q q X → TierQ w X AV nV tV → Calls Tryz.prog 11 #[.pointer (some ⟨g, 0, none⟩), .int .i64 tw, (.agg #[.int .i64 V.slots, .int .i64 V.low, .int .i64 V.high, .int .i64 V.top, .int .i64 V.sketch, .int .i64 V.fine, .int .i64 V.idle, .int .i64 V.window, .int .i64 V.late, .int .i64 V.future, .slice AV nV cV])] X fun e w' => e = .returned (.int .i64 E) ∧ PX w g x qz q w' ∧ FarQ X w') := Lib.hid (fun X h t => by
    have h2 := px_roll1 V AV nV cV tV tw h t.ints t.le HTO.out
    rw [hE, hqz] at h2
    exact h2)
  have CR2 : Hid (∀ X, PX w g x qz q X → TierQ w X AV nV tV → Calls Tryz.prog 12 #[.pointer (some ⟨x, 0, none⟩), .int .i64 tw, (.agg #[.int .i64 V.slots, .int .i64 V.low, .int .i64 V.high, .int .i64 V.top, .int .i64 V.sketch, .int .i64 V.fine, .int .i64 V.idle, .int .i64 V.window, .int .i64 V.late, .int .i64 V.future, .slice AV nV cV])] X fun e w' => e = .returned (.int .i64 E) ∧ PX w g x qz qz w' ∧ FarR X w') := Lib.hid (fun X h t => by
    have h2 := px_roll2 V AV nV cV tV tw h t.ints t.le HTO.out
    rw [hE, hqz] at h2
    exact h2)
  have CRP : Hid (∀ X, Calls Tryz.prog 9 #[(.agg #[.int .i64 V.slots, .int .i64 V.low, .int .i64 V.high, .int .i64 V.top, .int .i64 V.sketch, .int .i64 V.fine, .int .i64 V.idle, .int .i64 V.window, .int .i64 V.late, .int .i64 V.future, .slice AV nV cV])] X fun e w' => e = .returned ((.agg #[.int .i64 V.slots, .int .i64 V.low, .int .i64 V.high, .int .i64 V.top, .int .i64 V.sketch, .int .i64 V.fine, .int .i64 V.idle, .int .i64 V.window, .int .i64 V.late, .int .i64 V.future, .slice AV nV cV])) ∧ Below X.heap.size X w') := Lib.hid (fun X => refPolicy_call V AV nV cV X)
  have HRV := Lib.hid hRV
  clear hqz hE hRV HBQ
  have nE : (E != E) = false := by simp
  go_upto_region 30 with fail
  have ML := BN.out.lt
  have hp := HP.out.step (bdrew (Below.refl _ _))
  have bd := BD.out.drew
  have bu := BU.out.drew
  have bn := BN.out.drew
  have tu := TU.out.step (bdrew (Below.refl _ _))
  have tv := TV.out.step (bdrew (Below.refl _ _))
  go_region_held3 (fun (w' : World) => ∀ i, w'.cell? ⟨gn, i, none⟩ = (#[.int .i64 V.slots, .int .i64 V.low, .int .i64 V.high, .int .i64 V.top, .int .i64 V.sketch, .int .i64 V.fine, .int .i64 V.idle, .int .i64 V.window, .int .i64 V.late, .int .i64 V.future, .slice AV nV cV] : Array Value)[i]?) (exact bn.cell)
    (first
      | (go_at_call 11; ((with_reducible refine (CR1.out _ hp tv).mono ?_); rintro eA wA ⟨rfl, hp2, hF⟩; have bd2 := hF.2 _ _ _ bd (by decide) (by decide) (by decide) (by decide); have bu2 := hF.2 _ _ _ bu (by decide) (by decide) (by decide) (by decide); have bn2 := hF.2 _ _ _ bn (by decide) (by decide) (by decide) (by decide); have tu2 := tu.farQ hp2.below hF; have tv2 := tv.farQ hp2.below hF; clear hp bd bu bn tu tv hF; have hp := hp2; have bd := bd2; have bu := bu2; have bn := bn2; have tu := tu2; have tv := tv2; clear hp2 bd2 bu2 bn2 tu2 tv2))
      | (go_at_call 9; ((with_reducible refine (CRP.out _).mono ?_); rintro eB wB ⟨rfl, bB⟩; have hp2 := hp.step bB; have bd2 := Blk.step bB bd; have bu2 := Blk.step bB bu; have bn2 := Blk.step bB bn; have tu2 := tu.step bB; have tv2 := tv.step bB; clear hp bd bu bn tu tv bB; have hp := hp2; have bd := bd2; have bu := bu2; have bn := bn2; have tu := tu2; have tv := tv2; clear hp2 bd2 bu2 bn2 tu2 tv2))
      | (go_at_call 12; ((with_reducible refine (CR2.out _ hp tv).mono ?_); rintro eC wC ⟨rfl, hp2, hF⟩; have bd2 := hF.2 _ _ _ bd (by decide) (by decide) (by decide) (by decide); have bu2 := hF.2 _ _ _ bu (by decide) (by decide) (by decide) (by decide); have bn2 := hF.2 _ _ _ bn (by decide) (by decide) (by decide) (by decide); have tu2 := tu.farR hp2.below hF; have tv2 := tv.farR hp2.below hF; clear hp bd bu bn tu tv hF; have hp := hp2; have bd := bd2; have bu := bu2; have bn := bn2; have tu := tu2; have tv := tv2; clear hp2 bd2 bu2 bn2 tu2 tv2)))
  clear HP BD BU BN TU TV ML CR1 CR2
  have HP := Lib.hid hp
  have BD := Lib.hid bd
  have BU := Lib.hid bu
  have BN := Lib.hid bn
  have TU := Lib.hid tu
  have TV := Lib.hid tv
  clear hp bd bu bn tu tv
  go_upto_region 32 with fail
  go_cut [160] from 161 (fun v wx => ∃ bq : Bool, v = .bool bq ∧ Hid (bq = true → RV = true) ∧ PX w g x qz qz wx ∧ Blk wx gd 41 #[.int .u8 kind, .int .u8 k, .string s, .bool known, .bool full, .int .i64 by_, .int .i64 dp.slots, .int .i64 dp.low, .int .i64 dp.high, .int .i64 dp.top, .int .i64 dp.sketch, .int .i64 dp.fine, .int .i64 dp.idle, .int .i64 dp.window, .int .i64 dp.late, .int .i64 dp.future, .slice dta dtn dtc, .bool down, .slice da dn dc] ∧ Blk wx gp 24 #[.int .i64 U.slots, .int .i64 U.low, .int .i64 U.high, .int .i64 U.top, .int .i64 U.sketch, .int .i64 U.fine, .int .i64 U.idle, .int .i64 U.window, .int .i64 U.late, .int .i64 U.future, .slice AU nU cU] ∧ Blk wx gn 24 #[.int .i64 V.slots, .int .i64 V.low, .int .i64 V.high, .int .i64 V.top, .int .i64 V.sketch, .int .i64 V.fine, .int .i64 V.idle, .int .i64 V.window, .int .i64 V.late, .int .i64 V.future, .slice AV nV cV] ∧ TierQ w wx AU nU tU ∧ TierQ w wx AV nV tV)
  case first =>
    as_aux_lemma =>
    obtain ⟨gx, gy, _, cx1, _, cx6, hxl, ⟨yx, hRf⟩, hyl, cy1⟩ := HP.out.2.cells
    obtain ⟨bz, hbz⟩ : ∃ M, qz.b = M := ⟨_, rfl⟩
    obtain ⟨rz, hrz⟩ : ∃ M, qz.room = M := ⟨_, rfl⟩
    have HSX : Hid (∀ X, Below wC.heap.size wC X → X.cell? ⟨x, 1, none⟩ = some (.pointer (some ⟨gx, 0, none⟩)) ∧ X.cell? ⟨x, 6, none⟩ = some (.pointer (some ⟨gy, 0, none⟩)) ∧ X.cell? ⟨gy, 1, none⟩ = some (.int .i64 rz)) := Lib.hid (fun X hX => ⟨(hX.cell (p := ⟨x, 1, none⟩) hxl).trans cx1, (hX.cell (p := ⟨x, 6, none⟩) hxl).trans cx6, (hX.cell (p := ⟨gy, 1, none⟩) hyl).trans (by rw [← hrz]; exact cy1)⟩)
    have CB : Hid (∀ X, Below wC.heap.size wC X → Calls Tryz.prog 13 #[.pointer (some ⟨gx, 0, none⟩)] X fun e w' => e = .returned (.int .i64 bz) ∧ Below X.heap.size X w') := Lib.hid (fun X hX => by rw [← hbz]; exact RBits_any gx yx qz.b qz.rn X (Rf.step hX hRf))
    have CRR : Hid (∀ X, TierQ w X AV nV tV → Calls Tryz.prog 14 #[(.agg #[.int .i64 V.slots, .int .i64 V.low, .int .i64 V.high, .int .i64 V.top, .int .i64 V.sketch, .int .i64 V.fine, .int .i64 V.idle, .int .i64 V.window, .int .i64 V.late, .int .i64 V.future, .slice AV nV cV])] X fun e w' => e = .returned (.bool RV) ∧ Below X.heap.size X w') := Lib.hid (fun X t => by
      have h2 := rightR_call V AV nV cV tV X t.ints t.le
      rw [HRV.out] at h2
      exact h2)
    have HRfz : Hid (Rf wC gx yx bz qz.rn) := Lib.hid (by rw [← hbz]; exact hRf)
    clear hbz hrz cx1 cx6 hRf cy1
    have ML := BN.out.lt
    by_cases g1 : (bz : Int) = V.sketch
    rotate_left
    · have b1 : ((bz : Int) == V.sketch) = false := by simp [g1]
      clear g1
      obtain ⟨y1, y6, y7⟩ := HSX.out _ (Below.refl _ _)
      have yn := BN.out.cell
      go_quiet ((go_at_call 13; exact rbits_quiet (by assumption)))
      have bq := bdrewN (Below.refl wC.heap.size wC) nq
      go_wp2_with fail
      go_meet
      exact ⟨false, rfl, Lib.hid (fun h => by cases h), HP.out.step bq, Blk.step bq BD.out, Blk.step bq BU.out, Blk.step bq BN.out, TU.out.step bq, TV.out.step bq⟩
    have b1 : ((bz : Int) == V.sketch) = true := by simp [g1]
    by_cases g2 : (rz : Int) = V.top
    rotate_left
    · have b2 : ((rz : Int) == V.top) = false := by simp [g2]
      clear g1 g2
      obtain ⟨y1, y6, y7⟩ := HSX.out _ (Below.refl _ _)
      have yn := BN.out.cell
      go_quiet ((go_at_call 13; exact rbits_quiet (by assumption)))
      have bq := bdrewN (Below.refl wC.heap.size wC) nq
      go_wp2_with fail
      go_meet
      exact ⟨false, rfl, Lib.hid (fun h => by cases h), HP.out.step bq, Blk.step bq BD.out, Blk.step bq BU.out, Blk.step bq BN.out, TU.out.step bq, TV.out.step bq⟩
    have b2 : ((rz : Int) == V.top) = true := by simp [g2]
    clear g1 g2 HRfz
    have hp := HP.out.step (bdrew (Below.refl _ _))
    have bd := BD.out.drew
    have bu := BU.out.drew
    have bn := BN.out.drew
    have tu := TU.out.step (bdrew (Below.refl _ _))
    have tv := TV.out.step (bdrew (Below.refl _ _))
    have bb := bdrew (Below.refl wC.heap.size wC)
    go_region_held3 (fun (w' : World) => w'.cell? ⟨x, 1, none⟩ = some (.pointer (some ⟨gx, 0, none⟩)) ∧ w'.cell? ⟨x, 6, none⟩ = some (.pointer (some ⟨gy, 0, none⟩)) ∧ w'.cell? ⟨gy, 1, none⟩ = some (.int .i64 rz) ∧ ∀ i, w'.cell? ⟨gn, i, none⟩ = (#[.int .i64 V.slots, .int .i64 V.low, .int .i64 V.high, .int .i64 V.top, .int .i64 V.sketch, .int .i64 V.fine, .int .i64 V.idle, .int .i64 V.window, .int .i64 V.late, .int .i64 V.future, .slice AV nV cV] : Array Value)[i]?) (exact ⟨(HSX.out _ bb).1, (HSX.out _ bb).2.1, (HSX.out _ bb).2.2, bn.cell⟩)
      (first
        | (go_at_call 13; ((with_reducible refine (CB.out _ bb).mono ?_); rintro eD wD ⟨rfl, bB⟩; have bb2 := bstep bB bb; clear bb; have bb := bb2; clear bb2; have hp2 := hp.step bB; have bd2 := Blk.step bB bd; have bu2 := Blk.step bB bu; have bn2 := Blk.step bB bn; have tu2 := tu.step bB; have tv2 := tv.step bB; clear hp bd bu bn tu tv bB; have hp := hp2; have bd := bd2; have bu := bu2; have bn := bn2; have tu := tu2; have tv := tv2; clear hp2 bd2 bu2 bn2 tu2 tv2))
        | (go_at_call 9; ((with_reducible refine (CRP.out _).mono ?_); rintro eE wE ⟨rfl, bB⟩; have bb2 := bstep bB bb; clear bb; have bb := bb2; clear bb2; have hp2 := hp.step bB; have bd2 := Blk.step bB bd; have bu2 := Blk.step bB bu; have bn2 := Blk.step bB bn; have tu2 := tu.step bB; have tv2 := tv.step bB; clear hp bd bu bn tu tv bB; have hp := hp2; have bd := bd2; have bu := bu2; have bn := bn2; have tu := tu2; have tv := tv2; clear hp2 bd2 bu2 bn2 tu2 tv2))
        | (go_at_call 14; ((with_reducible refine (CRR.out _ tv).mono ?_); rintro eF wF ⟨rfl, bB⟩; have bb2 := bstep bB bb; clear bb; have bb := bb2; clear bb2; have hp2 := hp.step bB; have bd2 := Blk.step bB bd; have bu2 := Blk.step bB bu; have bn2 := Blk.step bB bn; have tu2 := tu.step bB; have tv2 := tv.step bB; clear hp bd bu bn tu tv bB; have hp := hp2; have bd := bd2; have bu := bu2; have bn := bn2; have tu := tu2; have tv := tv2; clear hp2 bd2 bu2 bn2 tu2 tv2)))
    go_wp2_with fail
    go_meet
    exact ⟨RV, rfl, Lib.hid (fun h => h), hp, bd, bu, bn, tu, tv⟩
  case rest =>
  clear HP BD BU BN TU TV
  obtain ⟨bq, rfl, hbq, hp, bd, bu, bn, tu, tv⟩ := hcut
  have HP := Lib.hid hp
  have BD := Lib.hid bd
  have BU := Lib.hid bu
  have BN := Lib.hid bn
  have TU := Lib.hid tu
  have TV := Lib.hid tv
  clear hp bd bu bn tu tv
  cases bq
  · as_aux_lemma =>
    have HZ := HP
    have HBUz := BU
    have HTUz := TU
    have HRUz := HRU
    clear HP BD BN TV
    obtain ⟨MQ, hMQ⟩ : ∃ M, manyQ qz = M := ⟨_, rfl⟩
    obtain ⟨wz, hwz⟩ : ∃ M, qz.win = M := ⟨_, rfl⟩
    obtain ⟨cz, hcz⟩ : ∃ M, qz.closed = M := ⟨_, rfl⟩
    have CM1 : Hid (∀ V, PX w g x qz qz V → Calls Tryz.prog 20 #[.pointer (some ⟨g, 0, none⟩)] V fun e w' => e = .returned (.int .u64 MQ) ∧ Below V.heap.size V w') := Lib.hid (fun V h => by rw [← hMQ]; exact q_many h.1)
    have CM2 : Hid (∀ V, PX w g x qz qz V → Calls Tryz.prog 21 #[.pointer (some ⟨x, 0, none⟩)] V fun e w' => e = .returned (.int .u64 MQ) ∧ Below V.heap.size V w') := Lib.hid (fun V h => by rw [← hMQ]; exact rx_many h.2)
    have CC : Hid (∀ V, PX w g x qz qz V → Calls Tryz.prog 24 #[.pointer (some ⟨g, 0, none⟩)] V fun e w' => e = .returned (.bool cz) ∧ V = w') := Lib.hid (fun V h => by rw [← hcz]; exact q_closed h.1)
    have CW : Hid (∀ V, PX w g x qz qz V → Calls Tryz.prog 10 #[.pointer (some ⟨g, 0, none⟩)] V fun e w' => e = .returned (.int .i64 wz) ∧ V = w') := Lib.hid (fun V h => by rw [← hwz]; exact q_window h.1)
    have HS : Hid (∀ V, PX w g x qz qz V → V.cell? ⟨x, 3, none⟩ = some (.bool cz) ∧ V.cell? ⟨x, 0, none⟩ = some (.int .i64 wz)) := Lib.hid (fun V h => by
      obtain ⟨_, _, c0, _, c3, _⟩ := h.2.cells
      rw [← hcz, ← hwz]
      exact ⟨c3, c0⟩)
    have hxl : x < wc.heap.size := by obtain ⟨_, _, _, _, _, _, h, _⟩ := HZ.out.2.cells; exact h
    clear hMQ hwz hcz
    have nm : (MQ != MQ) = false := by simp
    have nc : (cz != cz) = false := by simp
    have nw : (wz != wz) = false := by simp
    go_upto_region 41 with fail
    have hz := HZ.out.step (bdrew (Below.refl _ _))
    have bz := bdrew (Below.refl wc.heap.size wc)
    go_region_held3 (fun (w' : World) => w'.cell? ⟨x, 3, none⟩ = some (.bool cz) ∧ w'.cell? ⟨x, 0, none⟩ = some (.int .i64 wz)) (exact HS.out _ hz)
      (first
        | (go_at_call 20; ((with_reducible refine (CM1.out _ hz).mono ?_); rintro eA wA ⟨rfl, bA⟩; have hz2 := hz.step bA; have bz2 := bstep bA bz; clear hz bz bA; have hz := hz2; have bz := bz2; clear hz2 bz2))
        | (go_at_call 21; ((with_reducible refine (CM2.out _ hz).mono ?_); rintro eB wB ⟨rfl, bB⟩; have hz2 := hz.step bB; have bz2 := bstep bB bz; clear hz bz bB; have hz := hz2; have bz := bz2; clear hz2 bz2))
        | (go_at_call 24; ((with_reducible refine (CC.out _ hz).mono ?_); rintro eC wC ⟨rfl, rfl⟩))
        | (go_at_call 10; ((with_reducible refine (CW.out _ hz).mono ?_); rintro eD wD ⟨rfl, rfl⟩)))
    have HHz := Lib.hid hz
    have HBz := Lib.hid bz
    clear hz bz
    go_wp2_with fail
    refine ⟨?_, by simp [Wmu, intOf]; omega⟩
    unfold WI
    refine ⟨_, _, _, _, _, _, _, _, _, _, _, _, _, _, _, _, _, _, _, _, _, _, _, _, _, _, _, _, _, _, _, _, _, _, _, _, _, _, _, _, _, _, _, _, _, _, _, _, _, _, _, _, _, _, _, _, _, _, _, _, _, _, _, _, _, _, _, _, _, _, _, _, _, _, _, _, _, _, _, _, _, _, _, _, _, _, _, _, _, _, _, _, _, _, _, _, _, _, _, _, _, _, _, _, _, _, _, _, _, _, _, _, _, _, _, _, _, _, _, _, _, _, _, _, _, _, _, _, _, _, _, _, _, _, _, _, _, _, _, _, _, _, _, _, _, _, _, _, _, _, _, _, _, _, _, _, _, _, _, _, _, _, _, _, _, _, _, _, _, _, _, _, _, _, _, _, _, _, _, _, _, _, _, _, _, _, _, _, _, _, _, _, _, _, _, _, _, _, _, _, _, _, _, _, _, _, _, _, _, _, _, _, _, _, _, _, _, _, _, _, _, _, _, _, _, _, _, _, _, _, _, j + 1, _, ⟨qz, U, AU, nU, cU, tU, by omega, by omega, HHz.out, HBQz.out, Blk.step HBz.out HBUz.out, HTUz.out.step HBz.out, HRUz.out⟩, ?_, rfl⟩
    omega
  · as_aux_lemma =>
    have HRUz : Hid (rightP V tV = true) := Lib.hid (by rw [HRV.out]; exact hbq.out rfl)
    go_upto_region 33 with fail
    refine wp_region_lit ?_
    refine wpList_load_row rfl 24 (.tmp 16) rfl gn (by simp [Act.eval, Act.put]) 24 #[.int .i64 V.slots, .int .i64 V.low, .int .i64 V.high, .int .i64 V.top, .int .i64 V.sketch, .int .i64 V.fine, .int .i64 V.idle, .int .i64 V.window, .int .i64 V.late, .int .i64 V.future, .slice AV nV cV] (0, 0) _ BN.out Tryz.underlying24 rfl (by kernel_rfl) ?_
    refine wpList_store_row rfl 24 (.tmp 10) (.tmp 161) rfl gp #[.int .i64 V.slots, .int .i64 V.low, .int .i64 V.high, .int .i64 V.top, .int .i64 V.sketch, .int .i64 V.fine, .int .i64 V.idle, .int .i64 V.window, .int .i64 V.late, .int .i64 V.future, .slice AV nV cV] (by simp [Act.eval, Act.put]) (by simp [Act.eval, Act.put]) 24 #[.int .i64 U.slots, .int .i64 U.low, .int .i64 U.high, .int .i64 U.top, .int .i64 U.sketch, .int .i64 U.fine, .int .i64 U.idle, .int .i64 U.window, .int .i64 U.late, .int .i64 U.future, .slice AU nU cU] BU.out (by kernel_rfl) rfl (by simp [Value.oneCell']) ?_
    have G12 := setRow_grown wc gp #[.int .i64 V.slots, .int .i64 V.low, .int .i64 V.high, .int .i64 V.top, .int .i64 V.sketch, .int .i64 V.fine, .int .i64 V.idle, .int .i64 V.window, .int .i64 V.late, .int .i64 V.future, .slice AV nV cV]
    have HBUz := Lib.hid (setRow_blk BU.out #[.int .i64 V.slots, .int .i64 V.low, .int .i64 V.high, .int .i64 V.top, .int .i64 V.sketch, .int .i64 V.fine, .int .i64 V.idle, .int .i64 V.window, .int .i64 V.late, .int .i64 V.future, .slice AV nV cV])
    have HZ := Lib.hid (HP.out.other BU.out hgp G12)
    have HTUz := Lib.hid (TV.out.grown HZ.out.below BU.out (by decide) G12)
    clear G12 HP BD BU BN TU TV HRU
    generalize (wc.setRow gp #[.int .i64 V.slots, .int .i64 V.low, .int .i64 V.high, .int .i64 V.top, .int .i64 V.sketch, .int .i64 V.fine, .int .i64 V.idle, .int .i64 V.window, .int .i64 V.late, .int .i64 V.future, .slice AV nV cV]) = w12 at *
    obtain ⟨MQ, hMQ⟩ : ∃ M, manyQ qz = M := ⟨_, rfl⟩
    obtain ⟨wz, hwz⟩ : ∃ M, qz.win = M := ⟨_, rfl⟩
    obtain ⟨cz, hcz⟩ : ∃ M, qz.closed = M := ⟨_, rfl⟩
    have CM1 : Hid (∀ V, PX w g x qz qz V → Calls Tryz.prog 20 #[.pointer (some ⟨g, 0, none⟩)] V fun e w' => e = .returned (.int .u64 MQ) ∧ Below V.heap.size V w') := Lib.hid (fun V h => by rw [← hMQ]; exact q_many h.1)
    have CM2 : Hid (∀ V, PX w g x qz qz V → Calls Tryz.prog 21 #[.pointer (some ⟨x, 0, none⟩)] V fun e w' => e = .returned (.int .u64 MQ) ∧ Below V.heap.size V w') := Lib.hid (fun V h => by rw [← hMQ]; exact rx_many h.2)
    have CC : Hid (∀ V, PX w g x qz qz V → Calls Tryz.prog 24 #[.pointer (some ⟨g, 0, none⟩)] V fun e w' => e = .returned (.bool cz) ∧ V = w') := Lib.hid (fun V h => by rw [← hcz]; exact q_closed h.1)
    have CW : Hid (∀ V, PX w g x qz qz V → Calls Tryz.prog 10 #[.pointer (some ⟨g, 0, none⟩)] V fun e w' => e = .returned (.int .i64 wz) ∧ V = w') := Lib.hid (fun V h => by rw [← hwz]; exact q_window h.1)
    have HS : Hid (∀ V, PX w g x qz qz V → V.cell? ⟨x, 3, none⟩ = some (.bool cz) ∧ V.cell? ⟨x, 0, none⟩ = some (.int .i64 wz)) := Lib.hid (fun V h => by
      obtain ⟨_, _, c0, _, c3, _⟩ := h.2.cells
      rw [← hcz, ← hwz]
      exact ⟨c3, c0⟩)
    have hxl : x < w12.heap.size := by obtain ⟨_, _, _, _, _, _, h, _⟩ := HZ.out.2.cells; exact h
    clear hMQ hwz hcz
    have nm : (MQ != MQ) = false := by simp
    have nc : (cz != cz) = false := by simp
    have nw : (wz != wz) = false := by simp
    go_upto_region 41 with fail
    have hz := HZ.out.step (bdrew (Below.refl _ _))
    have bz := bdrew (Below.refl w12.heap.size w12)
    go_region_held3 (fun (w' : World) => w'.cell? ⟨x, 3, none⟩ = some (.bool cz) ∧ w'.cell? ⟨x, 0, none⟩ = some (.int .i64 wz)) (exact HS.out _ hz)
      (first
        | (go_at_call 20; ((with_reducible refine (CM1.out _ hz).mono ?_); rintro eA wA ⟨rfl, bA⟩; have hz2 := hz.step bA; have bz2 := bstep bA bz; clear hz bz bA; have hz := hz2; have bz := bz2; clear hz2 bz2))
        | (go_at_call 21; ((with_reducible refine (CM2.out _ hz).mono ?_); rintro eB wB ⟨rfl, bB⟩; have hz2 := hz.step bB; have bz2 := bstep bB bz; clear hz bz bB; have hz := hz2; have bz := bz2; clear hz2 bz2))
        | (go_at_call 24; ((with_reducible refine (CC.out _ hz).mono ?_); rintro eC wC ⟨rfl, rfl⟩))
        | (go_at_call 10; ((with_reducible refine (CW.out _ hz).mono ?_); rintro eD wD ⟨rfl, rfl⟩)))
    have HHz := Lib.hid hz
    have HBz := Lib.hid bz
    clear hz bz
    go_wp2_with fail
    refine ⟨?_, by simp [Wmu, intOf]; omega⟩
    unfold WI
    refine ⟨_, _, _, _, _, _, _, _, _, _, _, _, _, _, _, _, _, _, _, _, _, _, _, _, _, _, _, _, _, _, _, _, _, _, _, _, _, _, _, _, _, _, _, _, _, _, _, _, _, _, _, _, _, _, _, _, _, _, _, _, _, _, _, _, _, _, _, _, _, _, _, _, _, _, _, _, _, _, _, _, _, _, _, _, _, _, _, _, _, _, _, _, _, _, _, _, _, _, _, _, _, _, _, _, _, _, _, _, _, _, _, _, _, _, _, _, _, _, _, _, _, _, _, _, _, _, _, _, _, _, _, _, _, _, _, _, _, _, _, _, _, _, _, _, _, _, _, _, _, _, _, _, _, _, _, _, _, _, _, _, _, _, _, _, _, _, _, _, _, _, _, _, _, _, _, _, _, _, _, _, _, _, _, _, _, _, _, _, _, _, _, _, _, _, _, _, _, _, _, _, _, _, _, _, _, _, _, _, _, _, _, _, _, _, _, _, _, _, _, _, _, _, _, _, _, _, _, _, _, _, _, j + 1, _, ⟨qz, V, AV, nV, cV, tV, by omega, by omega, HHz.out, HBQz.out, Blk.step HBz.out HBUz.out, HTUz.out.step HBz.out, HRUz.out⟩, ?_, rfl⟩
    omega
end Go.Proofs.YtapiehddcdnadaaGreatDoor

/- QuotaPlays: the loop's body, its relation; the case of Admit. -/
import Derived.Test.YtapiehddcdnadaaGreatDoorQuZ4
import Derived.Deep.RegionHeldLaw
import Derived.Deep.CutBlock
import Derived.Deep.CutRange
import Derived.Deep.MidRow
import Derived.Deep.WholeRow
import Derived.Laws.Tables
namespace Go.Proofs.YtapiehddcdnadaaGreatDoor
open Go.RowKit
set_option linter.unusedVariables false
set_option linter.unusedSimpArgs false

theorem conv_letY {W : World} {g : Nat} {v : Int} (h : Blk W g 5 #[.int .u8 v]) : (convert 68 9 (.slice (some ⟨g, 0, none⟩) 1 1)).run Tryz.prog W = .ok (.string (strOfNums [v])) W :=
  run_convert_bytes_arg (P := Tryz.prog) _ 68 5 Tryz.underlying68 Tryz.underlying5 g 0 1 1 [v] rfl (fun j hj => by
    obtain rfl : j = 0 := by omega
    exact h.cellAt 0 rfl) 9 Tryz.underlying9
theorem str1_sizeY (v : Int) : (strOfNums [v]).size = 1 := by
  unfold strOfNums
  simp [ByteArray.size]
/-- The first loop of a code: its body. -/
def firstLoop : Code → Option Code
  | .loop c => some c
  | .seq a b => match firstLoop a with
    | some c => some c
    | none => firstLoop b
  | .block _ c => firstLoop c
  | .scope c => firstLoop c
  | .cond _ a b => match firstLoop a with
    | some c => some c
    | none => firstLoop b
  | _ => none
noncomputable def bodyQ : Code := ((Tryz.f3.body.bind firstLoop).getD .skip)
/-- What holds of both quotas at the head of a round. -/
def RelQ (w : World) (g x gp : Nat) (n2 j : Nat) (wr : World) : Prop := ∃ (q : QS) (U : PolN) (AU : Option Addr) (nU cU : Nat) (tU : List Int), j ≤ n2 ∧ j ≤ 80 ∧ PX w g x q q wr ∧ BackQQ q ∧ Blk wr gp 24 #[.int .i64 U.slots, .int .i64 U.low, .int .i64 U.high, .int .i64 U.top, .int .i64 U.sketch, .int .i64 U.fine, .int .i64 U.idle, .int .i64 U.window, .int .i64 U.late, .int .i64 U.future, .slice AU nU cU] ∧ TierQ w wr AU nU tU ∧ rightP U tU = true
set_option maxRecDepth 1000000 in
def WI (near : Bool) (a2 : Option Addr) (n2 c2 : Nat) (w : World) (g x gp : Nat) (a : Act) (wr : World) : Prop := ∃ (u0 u1 u4 u5 u6 u7 u8 u12 u15 u16 u17 u18 u19 u20 u21 u22 u23 u24 u25 u26 u27 u28 u29 u30 u31 u32 u33 u34 u35 u36 u37 u38 u39 u40 u41 u42 u43 u44 u45 u46 u47 u48 u49 u50 u51 u52 u53 u54 u55 u56 u57 u58 u59 u60 u61 u62 u63 u64 u65 u66 u67 u68 u69 u70 u71 u72 u73 u74 u75 u76 u77 u78 u79 u80 u81 u82 u83 u84 u85 u86 u87 u88 u89 u90 u91 u92 u93 u94 u95 u96 u97 u98 u99 u100 u101 u102 u103 u104 u105 u106 u107 u108 u109 u110 u111 u112 u113 u114 u115 u116 u117 u118 u119 u120 u121 u122 u123 u124 u125 u126 u127 u128 u129 u130 u131 u132 u133 u134 u135 u136 u137 u138 u139 u140 u141 u142 u143 u144 u145 u146 u147 u148 u149 u150 u151 u152 u153 u154 u155 u156 u157 u158 u159 u160 u161 u162 u163 u164 u165 u166 u167 u168 u169 u170 u171 u172 u173 u174 u175 u176 u177 u178 u179 u180 u181 u182 u183 u184 u185 u186 u187 u188 u189 u190 u191 u192 u193 u194 u195 u196 u197 u198 u199 u200 u201 u202 u203 u204 u205 u206 u207 u208 u209 u210 u211 u212 u213 u214 u215 u216 u217 u218 u219 u220 u221 u222 u223 u224 u225 u226 u227 u228 u229 u230 u231 u232 u233 u234 u235 u236 u237 : Value), ∃ (j : Nat) (ji : Int), RelQ w g x gp n2 j wr ∧ ji = j ∧ a = ⟨#[u0, u1, .bool near, .slice a2 n2 c2, u4, u5, u6, u7, u8, .bool true, .pointer (some ⟨gp, 0, none⟩), .pointer (some ⟨g, 0, none⟩), u12, .pointer (some ⟨x, 0, none⟩), .int .i64 ji, u15, u16, u17, u18, u19, u20, u21, u22, u23, u24, u25, u26, u27, u28, u29, u30, u31, u32, u33, u34, u35, u36, u37, u38, u39, u40, u41, u42, u43, u44, u45, u46, u47, u48, u49, u50, u51, u52, u53, u54, u55, u56, u57, u58, u59, u60, u61, u62, u63, u64, u65, u66, u67, u68, u69, u70, u71, u72, u73, u74, u75, u76, u77, u78, u79, u80, u81, u82, u83, u84, u85, u86, u87, u88, u89, u90, u91, u92, u93, u94, u95, u96, u97, u98, u99, u100, u101, u102, u103, u104, u105, u106, u107, u108, u109, u110, u111, u112, u113, u114, u115, u116, u117, u118, u119, u120, u121, u122, u123, u124, u125, u126, u127, u128, u129, u130, u131, u132, u133, u134, u135, u136, u137, u138, u139, u140, u141, u142, u143, u144, u145, u146, u147, u148, u149, u150, u151, u152, u153, u154, u155, u156, u157, u158, u159, u160, u161, u162, u163, u164, u165, u166, u167, u168, u169, u170, u171, u172, u173, u174, u175, u176, u177, u178, u179, u180, u181, u182, u183, u184, u185, u186, u187, u188, u189, u190, u191, u192, u193, u194, u195, u196, u197, u198, u199, u200, u201, u202, u203, u204, u205, u206, u207, u208, u209, u210, u211, u212, u213, u214, u215, u216, u217, u218, u219, u220, u221, u222, u223, u224, u225, u226, u227, u228, u229, u230, u231, u232, u233, u234, u235, u236, u237], []⟩
def Wmu (n2 : Nat) (a : Act) (_ : World) : Nat := n2 - (intOf (a.tmps.getD 14 undef)).toNat
set_option maxRecDepth 1000000 in
set_option maxHeartbeats 8000000 in
theorem round_admit (near : Bool) (b off n2 c2 : Nat) (w wr : World) (g x gp : Nat) (Q0 : Exit → Act → World → Prop) (u0 u1 u4 u5 u6 u7 u8 u12 u15 u16 u17 u18 u19 u20 u21 u22 u23 u24 u25 u26 u27 u28 u29 u30 u31 u32 u33 u34 u35 u36 u37 u38 u39 u40 u41 u42 u43 u44 u45 u46 u47 u48 u49 u50 u51 u52 u53 u54 u55 u56 u57 u58 u59 u60 u61 u62 u63 u64 u65 u66 u67 u68 u69 u70 u71 u72 u73 u74 u75 u76 u77 u78 u79 u80 u81 u82 u83 u84 u85 u86 u87 u88 u89 u90 u91 u92 u93 u94 u95 u96 u97 u98 u99 u100 u101 u102 u103 u104 u105 u106 u107 u108 u109 u110 u111 u112 u113 u114 u115 u116 u117 u118 u119 u120 u121 u122 u123 u124 u125 u126 u127 u128 u129 u130 u131 u132 u133 u134 u135 u136 u137 u138 u139 u140 u141 u142 u143 u144 u145 u146 u147 u148 u149 u150 u151 u152 u153 u154 u155 u156 u157 u158 u159 u160 u161 u162 u163 u164 u165 u166 u167 u168 u169 u170 u171 u172 u173 u174 u175 u176 u177 u178 u179 u180 u181 u182 u183 u184 u185 u186 u187 u188 u189 u190 u191 u192 u193 u194 u195 u196 u197 u198 u199 u200 u201 u202 u203 u204 u205 u206 u207 u208 u209 u210 u211 u212 u213 u214 u215 u216 u217 u218 u219 u220 u221 u222 u223 u224 u225 u226 u227 u228 u229 u230 u231 u232 u233 u234 u235 u236 u237 : Value) (j : Nat) (q : QS) (U : PolN) (AU : Option Addr) (nU cU : Nat) (tU : List Int) (kind k : Int) (s : ByteArray) (known full : Bool) (by_ : Int) (dp : PolN) (dta : Option Addr) (dtn dtc : Nat) (dts : List Int) (down : Bool) (da : Option Addr) (dn dc : Nat) (dxs : List Int) (hT : Tab w) (hj1 : j < n2) (hj2 : j < 80) (hn2 : n2 ≤ 9223372036854775807) (hPX : PX w g x q q wr) (hBQ : BackQQ q) (hBU : Blk wr gp 24 #[.int .i64 U.slots, .int .i64 U.low, .int .i64 U.high, .int .i64 U.top, .int .i64 U.sketch, .int .i64 U.fine, .int .i64 U.idle, .int .i64 U.window, .int .i64 U.late, .int .i64 U.future, .slice AU nU cU]) (hTU : TierQ w wr AU nU tU) (hRU : rightP U tU = true) (hgp : w.heap.size ≤ gp) (hb : b < wr.heap.size) (f0 : 0 ≤ kind ∧ kind ≤ 255) (f1 : 0 ≤ k ∧ k ≤ 255) (f2 : s.size ≤ 9223372036854775807) (f3 : -9223372036854775808 ≤ by_ ∧ by_ ≤ 9223372036854775807) (f5 : Ints .i64 w dta dtn dts) (f6 : dtn ≤ 9223372036854775807) (f7 : Ints .u16 w da dn dxs) (f8 : dn ≤ 9223372036854775807) (HC : Hid (∀ i u, ([.int .u8 kind, .int .u8 k, .string s, .bool known, .bool full, .int .i64 by_, .int .i64 dp.slots, .int .i64 dp.low, .int .i64 dp.high, .int .i64 dp.top, .int .i64 dp.sketch, .int .i64 dp.fine, .int .i64 dp.idle, .int .i64 dp.window, .int .i64 dp.late, .int .i64 dp.future, .slice dta dtn dtc, .bool down, .slice da dn dc] : List Value)[i]? = some u → wr.cell? ⟨b, off + j * 19 + i, none⟩ = some u))
    (kd : Int) (hkd : kind % 13 = kd) (hk1 : kd ≠ 10) (hk2 : kd ≠ 11) (hk3 : kd ≠ 12) :
    Code.wp Tryz.prog bodyQ (Exit.then (fun a' w'' => WI near (some ⟨b, off, none⟩) n2 c2 w g x gp a' w'' ∧ Wmu n2 a' w'' < Wmu n2 ⟨#[u0, u1, .bool near, .slice (some ⟨b, off, none⟩) n2 c2, u4, u5, u6, u7, u8, .bool true, .pointer (some ⟨gp, 0, none⟩), .pointer (some ⟨g, 0, none⟩), u12, .pointer (some ⟨x, 0, none⟩), .int .i64 (j : Nat), u15, u16, u17, u18, u19, u20, u21, u22, u23, u24, u25, u26, u27, u28, u29, u30, u31, u32, u33, u34, u35, u36, u37, u38, u39, u40, u41, u42, u43, u44, u45, u46, u47, u48, u49, u50, u51, u52, u53, u54, u55, u56, u57, u58, u59, u60, u61, u62, u63, u64, u65, u66, u67, u68, u69, u70, u71, u72, u73, u74, u75, u76, u77, u78, u79, u80, u81, u82, u83, u84, u85, u86, u87, u88, u89, u90, u91, u92, u93, u94, u95, u96, u97, u98, u99, u100, u101, u102, u103, u104, u105, u106, u107, u108, u109, u110, u111, u112, u113, u114, u115, u116, u117, u118, u119, u120, u121, u122, u123, u124, u125, u126, u127, u128, u129, u130, u131, u132, u133, u134, u135, u136, u137, u138, u139, u140, u141, u142, u143, u144, u145, u146, u147, u148, u149, u150, u151, u152, u153, u154, u155, u156, u157, u158, u159, u160, u161, u162, u163, u164, u165, u166, u167, u168, u169, u170, u171, u172, u173, u174, u175, u176, u177, u178, u179, u180, u181, u182, u183, u184, u185, u186, u187, u188, u189, u190, u191, u192, u193, u194, u195, u196, u197, u198, u199, u200, u201, u202, u203, u204, u205, u206, u207, u208, u209, u210, u211, u212, u213, u214, u215, u216, u217, u218, u219, u220, u221, u222, u223, u224, u225, u226, u227, u228, u229, u230, u231, u232, u233, u234, u235, u236, u237], []⟩ wr) Q0) ⟨#[u0, u1, .bool near, .slice (some ⟨b, off, none⟩) n2 c2, u4, u5, u6, u7, u8, .bool true, .pointer (some ⟨gp, 0, none⟩), .pointer (some ⟨g, 0, none⟩), u12, .pointer (some ⟨x, 0, none⟩), .int .i64 (j : Nat), u15, u16, u17, u18, u19, u20, u21, u22, u23, u24, u25, u26, u27, u28, u29, u30, u31, u32, u33, u34, u35, u36, u37, u38, u39, u40, u41, u42, u43, u44, u45, u46, u47, u48, u49, u50, u51, u52, u53, u54, u55, u56, u57, u58, u59, u60, u61, u62, u63, u64, u65, u66, u67, u68, u69, u70, u71, u72, u73, u74, u75, u76, u77, u78, u79, u80, u81, u82, u83, u84, u85, u86, u87, u88, u89, u90, u91, u92, u93, u94, u95, u96, u97, u98, u99, u100, u101, u102, u103, u104, u105, u106, u107, u108, u109, u110, u111, u112, u113, u114, u115, u116, u117, u118, u119, u120, u121, u122, u123, u124, u125, u126, u127, u128, u129, u130, u131, u132, u133, u134, u135, u136, u137, u138, u139, u140, u141, u142, u143, u144, u145, u146, u147, u148, u149, u150, u151, u152, u153, u154, u155, u156, u157, u158, u159, u160, u161, u162, u163, u164, u165, u166, u167, u168, u169, u170, u171, u172, u173, u174, u175, u176, u177, u178, u179, u180, u181, u182, u183, u184, u185, u186, u187, u188, u189, u190, u191, u192, u193, u194, u195, u196, u197, u198, u199, u200, u201, u202, u203, u204, u205, u206, u207, u208, u209, u210, u211, u212, u213, u214, u215, u216, u217, u218, u219, u220, u221, u222, u223, u224, u225, u226, u227, u228, u229, u230, u231, u232, u233, u234, u235, u236, u237], []⟩ wr := by
  have HT := Lib.hid hT
  have HPX := Lib.hid hPX
  have HBQ := Lib.hid hBQ
  have HBU := Lib.hid hBU
  have HTU := Lib.hid hTU
  have HRU := Lib.hid hRU
  have HF5 := Lib.hid f5
  have HF7 := Lib.hid f7
  clear hT hPX hBQ hBU hTU hRU f5 f7
  have e1 : (j : Int) < n2 := by omega
  have e3 : (j : Int) < 80 := by omega
  have t13 : kind.tmod 13 = kd := by rw [Int.tmod_eq_emod_of_nonneg f0.1]; exact hkd
  have hkr : 0 ≤ kd ∧ kd < 13 := by omega
  have k10 : (kd == 10) = false := by simp [hk1]
  have k11 : (kd == 11) = false := by simp [hk2]
  have k12 : (kd == 12) = false := by simp [hk3]
  clear hkd
  conv => arg 2; whnf
  go_upto_region 16 with fail
  have hbl := hb
  refine wp_region_lit ?_
  iterate 3 (refine wpList_plain rfl (fun K hK => ?_); go_simp; refine hK _ _ ?_; clear hK K)
  refine wpList_load_mid rfl 41 (.tmp 73) rfl b (off + j * 19) (by simp [Act.eval, Act.put]) [.int .u8 kind, .int .u8 k, .string s, .bool known, .bool full, .int .i64 by_, .int .i64 dp.slots, .int .i64 dp.low, .int .i64 dp.high, .int .i64 dp.top, .int .i64 dp.sketch, .int .i64 dp.fine, .int .i64 dp.idle, .int .i64 dp.window, .int .i64 dp.late, .int .i64 dp.future, .slice dta dtn dtc, .bool down, .slice da dn dc] _ (fun i u hu => HC.out i u hu) Tryz.underlying41 rfl (by kernel_rfl) ?_
  refine wpList_plain rfl (fun K hK => ?_)
  go_simp
  refine hK _ _ ?_
  clear hK K
  refine wpList_store_row rfl 41 (.tmp 15) (.tmp 74) rfl wr.heap.size #[.int .u8 kind, .int .u8 k, .string s, .bool known, .bool full, .int .i64 by_, .int .i64 dp.slots, .int .i64 dp.low, .int .i64 dp.high, .int .i64 dp.top, .int .i64 dp.sketch, .int .i64 dp.fine, .int .i64 dp.idle, .int .i64 dp.window, .int .i64 dp.late, .int .i64 dp.future, .slice dta dtn dtc, .bool down, .slice da dn dc] (by simp [Act.eval, Act.put]) (by simp [Act.eval, Act.put]) 41 _ (Blk.new wr _ _) (by kernel_rfl) rfl (by simp [Value.oneCell']) ?_
  rw [World.setRow_alloc_new]
  go_upto_region 17 with fail
  have hbW := Lib.hid HPX.out.below
  have BD := Lib.hid (Blk.new wr 41 #[.int .u8 kind, .int .u8 k, .string s, .bool known, .bool full, .int .i64 by_, .int .i64 dp.slots, .int .i64 dp.low, .int .i64 dp.high, .int .i64 dp.top, .int .i64 dp.sketch, .int .i64 dp.fine, .int .i64 dp.idle, .int .i64 dp.window, .int .i64 dp.late, .int .i64 dp.future, .slice dta dtn dtc, .bool down, .slice da dn dc])
  have HP7 := Lib.hid (HPX.out.step (balloc (Below.refl _ wr) (.cells #[.int .u8 kind, .int .u8 k, .string s, .bool known, .bool full, .int .i64 by_, .int .i64 dp.slots, .int .i64 dp.low, .int .i64 dp.high, .int .i64 dp.top, .int .i64 dp.sketch, .int .i64 dp.fine, .int .i64 dp.idle, .int .i64 dp.window, .int .i64 dp.late, .int .i64 dp.future, .slice dta dtn dtc, .bool down, .slice da dn dc] 41)))
  have HBU7 := Lib.hid (HBU.out.alloc (.cells #[.int .u8 kind, .int .u8 k, .string s, .bool known, .bool full, .int .i64 by_, .int .i64 dp.slots, .int .i64 dp.low, .int .i64 dp.high, .int .i64 dp.top, .int .i64 dp.sketch, .int .i64 dp.fine, .int .i64 dp.idle, .int .i64 dp.window, .int .i64 dp.late, .int .i64 dp.future, .slice dta dtn dtc, .bool down, .slice da dn dc] 41))
  have HTU7 := Lib.hid (HTU.out.step (balloc (Below.refl _ wr) (.cells #[.int .u8 kind, .int .u8 k, .string s, .bool known, .bool full, .int .i64 by_, .int .i64 dp.slots, .int .i64 dp.low, .int .i64 dp.high, .int .i64 dp.top, .int .i64 dp.sketch, .int .i64 dp.fine, .int .i64 dp.idle, .int .i64 dp.window, .int .i64 dp.late, .int .i64 dp.future, .slice dta dtn dtc, .bool down, .slice da dn dc] 41)))
  clear HPX HBU HTU HC hb
  generalize (wr.alloc (.cells #[.int .u8 kind, .int .u8 k, .string s, .bool known, .bool full, .int .i64 by_, .int .i64 dp.slots, .int .i64 dp.low, .int .i64 dp.high, .int .i64 dp.top, .int .i64 dp.sketch, .int .i64 dp.fine, .int .i64 dp.idle, .int .i64 dp.window, .int .i64 dp.late, .int .i64 dp.future, .slice dta dtn dtc, .bool down, .slice da dn dc] 41)) = w7 at *
  generalize wr.heap.size = gd at *
  have M0 : _ = some (Value.int .u8 kind) := BD.out.cellAt 0 rfl
  have M1 : _ = some (Value.int .u8 k) := BD.out.cellAt 1 rfl
  have M2 : _ = some (Value.string s) := BD.out.cellAt 2 rfl
  have ML := BD.out.lt
  go_upto_region 18 with fail
  have CV1 := conv_letY (Blk.new w7 5 #[.int .u8 k])
  have hkb : Hid ((⟨#[107, 101, 121]⟩ ++ strOfNums [k] : ByteArray).size ≤ 7) := Lib.hid (by rw [ByteArray.size_append, str1_sizeY]; show 3 + 1 ≤ 7; omega)
  go_upto_region 19 with fail
  have BD8 := Lib.hid (BD.out.alloc (.cells #[.int .u8 k] 5))
  have HP8 := Lib.hid (HP7.out.step (balloc (Below.refl _ w7) (.cells #[.int .u8 k] 5)))
  have HBU8 := Lib.hid (HBU7.out.alloc (.cells #[.int .u8 k] 5))
  have HTU8 := Lib.hid (HTU7.out.step (balloc (Below.refl _ w7) (.cells #[.int .u8 k] 5)))
  clear CV1 M0 M1 M2 ML BD HP7 HBU7 HTU7
  generalize (w7.alloc (.cells #[.int .u8 k] 5)) = w8 at *
  obtain ⟨lu, hu, hu2⟩ : ∃ u : Nat, k % 7 = (u : Int) ∧ u < 7 := ⟨(k % 7).toNat, by omega, by omega⟩
  have hu3 : k.tmod 7 = (lu : Int) := by rw [Int.tmod_eq_emod_of_nonneg f1.1]; exact hu
  have hu4 : IntKind.u8.wrap (97 + (lu : Int)) = 97 + (lu : Int) := by simp [IntKind.wrap, IntKind.bits, IntKind.signed]; omega
  clear hu
  have M1 : _ = some (Value.int .u8 k) := BD8.out.cellAt 1 rfl
  have ML := BD8.out.lt
  have CV1 := conv_letY (Blk.new w8 5 #[.int .u8 (97 + (lu : Int))])
  go_upto_region 20 with fail
  have BD9 := Lib.hid (BD8.out.alloc (.cells #[.int .u8 (97 + (lu : Int))] 5))
  have HP9 := Lib.hid (HP8.out.step (balloc (Below.refl _ w8) (.cells #[.int .u8 (97 + (lu : Int))] 5)))
  have HBU9 := Lib.hid (HBU8.out.alloc (.cells #[.int .u8 (97 + (lu : Int))] 5))
  have HTU9 := Lib.hid (HTU8.out.step (balloc (Below.refl _ w8) (.cells #[.int .u8 (97 + (lu : Int))] 5)))
  clear CV1 M1 ML BD8 HP8 HBU8 HTU8
  generalize (w8.alloc (.cells #[.int .u8 (97 + (lu : Int))] 5)) = w9 at *
  generalize strOfNums [97 + (lu : Int)] = mt0 at *
  have M1 : _ = some (Value.int .u8 k) := BD9.out.cellAt 1 rfl
  have M2 : _ = some (Value.string s) := BD9.out.cellAt 2 rfl
  have ML := BD9.out.lt
  go_upto_if 91 with fail
  go_cut [23] from 24 (fun v wx => ∃ mt : ByteArray, v = .string mt ∧ wx = w9)
  case first =>
    by_cases hk250 : (250 : Int) < k
    · go_wp2_with fail
      go_meet
      exact ⟨s, rfl, rfl⟩
    · go_wp2_with fail
      go_meet
      exact ⟨mt0, rfl, rfl⟩
  case rest =>
  obtain ⟨mt, rfl, rfl⟩ := hcut
  clear M1 M2 ML
  generalize ((⟨#[107, 101, 121]⟩ ++ strOfNums [k] : ByteArray)) = key at *
  obtain ⟨qz, hqz⟩ : ∃ qz, admQ q key mt known full = qz := ⟨_, rfl⟩
  obtain ⟨E, hE⟩ : ∃ E, admE q key mt known full = E := ⟨_, rfl⟩
  have HBQz : Hid (BackQQ qz) := Lib.hid (by rw [← hqz]; exact back_adm HBQ.out _ _ _ _)
  have CA1 : Hid (∀ V, PX w g x q q V → Calls Tryz.prog 22 #[.pointer (some ⟨g, 0, none⟩), .string key, .string mt, .bool known, .bool full] V fun e w' => e = .returned (.int .i64 E) ∧ PX w g x qz q w' ∧ FarQ V w') := Lib.hid (fun V h => by rw [← hE, ← hqz]; exact px_adm1 HT.out key mt known full hkb.out h)
  have CA2 : Hid (∀ V, PX w g x qz q V → Calls Tryz.prog 23 #[.pointer (some ⟨x, 0, none⟩), .string key, .string mt, .bool known, .bool full] V fun e w' => e = .returned (.int .i64 E) ∧ PX w g x qz qz w' ∧ FarR V w') := Lib.hid (fun V h => by
    have h2 := px_adm2 key mt known full hkb.out h
    rw [hE, hqz] at h2
    exact h2)
  clear hqz hE
  have nE : (E != E) = false := by simp
  go_upto_region 22 with fail
  have hp := HP9.out.step (bdrew (Below.refl _ _))
  have bd := BD9.out.drew
  have bu := HBU9.out.drew
  have tu := HTU9.out.step (bdrew (Below.refl _ _))
  have M3 : _ = some (Value.bool known) := BD9.out.cellAt 3 rfl
  have M4 : _ = some (Value.bool full) := BD9.out.cellAt 4 rfl
  have ML := BD9.out.lt
  go_region_held3 (fun (w' : World) => w'.cell? ⟨gd, 3, none⟩ = some (.bool known) ∧ w'.cell? ⟨gd, 4, none⟩ = some (.bool full)) (exact ⟨bd.cellAt 3 rfl, bd.cellAt 4 rfl⟩)
    (first
      | (go_at_call 22; ((with_reducible refine (CA1.out _ hp).mono ?_); rintro eA wA ⟨rfl, hp2, hF⟩; have bd2 := hF.2 _ _ _ bd (by decide) (by decide) (by decide) (by decide); have bu2 := hF.2 _ _ _ bu (by decide) (by decide) (by decide) (by decide); have tu2 := tu.farQ hp2.below hF; clear hp bd bu tu hF; have hp := hp2; have bd := bd2; have bu := bu2; have tu := tu2; clear hp2 bd2 bu2 tu2))
      | (go_at_call 23; ((with_reducible refine (CA2.out _ hp).mono ?_); rintro eB wB ⟨rfl, hp2, hF⟩; have bd2 := hF.2 _ _ _ bd (by decide) (by decide) (by decide) (by decide); have bu2 := hF.2 _ _ _ bu (by decide) (by decide) (by decide) (by decide); have tu2 := tu.farR hp2.below hF; clear hp bd bu tu hF; have hp := hp2; have bd := bd2; have bu := bu2; have tu := tu2; clear hp2 bd2 bu2 tu2)))
  have HZ := Lib.hid hp
  have HBUz := Lib.hid bu
  have HTUz := Lib.hid tu
  have HRUz := HRU
  clear hp bd bu tu M3 M4 ML HP9 BD9 HBU9 HTU9 CA1 CA2 HBQ HRU hkb
  obtain ⟨MQ, hMQ⟩ : ∃ M, manyQ qz = M := ⟨_, rfl⟩
  obtain ⟨wz, hwz⟩ : ∃ M, qz.win = M := ⟨_, rfl⟩
  obtain ⟨cz, hcz⟩ : ∃ M, qz.closed = M := ⟨_, rfl⟩
  have CM1 : Hid (∀ V, PX w g x qz qz V → Calls Tryz.prog 20 #[.pointer (some ⟨g, 0, none⟩)] V fun e w' => e = .returned (.int .u64 MQ) ∧ Below V.heap.size V w') := Lib.hid (fun V h => by rw [← hMQ]; exact q_many h.1)
  have CM2 : Hid (∀ V, PX w g x qz qz V → Calls Tryz.prog 21 #[.pointer (some ⟨x, 0, none⟩)] V fun e w' => e = .returned (.int .u64 MQ) ∧ Below V.heap.size V w') := Lib.hid (fun V h => by rw [← hMQ]; exact rx_many h.2)
  have CC : Hid (∀ V, PX w g x qz qz V → Calls Tryz.prog 24 #[.pointer (some ⟨g, 0, none⟩)] V fun e w' => e = .returned (.bool cz) ∧ V = w') := Lib.hid (fun V h => by rw [← hcz]; exact q_closed h.1)
  have CW : Hid (∀ V, PX w g x qz qz V → Calls Tryz.prog 10 #[.pointer (some ⟨g, 0, none⟩)] V fun e w' => e = .returned (.int .i64 wz) ∧ V = w') := Lib.hid (fun V h => by rw [← hwz]; exact q_window h.1)
  have HS : Hid (∀ V, PX w g x qz qz V → V.cell? ⟨x, 3, none⟩ = some (.bool cz) ∧ V.cell? ⟨x, 0, none⟩ = some (.int .i64 wz)) := Lib.hid (fun V h => by
    obtain ⟨_, _, c0, _, c3, _⟩ := h.2.cells
    rw [← hcz, ← hwz]
    exact ⟨c3, c0⟩)
  have hxl : x < wB.heap.size := by obtain ⟨_, _, _, _, _, _, h, _⟩ := HZ.out.2.cells; exact h
  clear hMQ hwz hcz
  have nm : (MQ != MQ) = false := by simp
  have nc : (cz != cz) = false := by simp
  have nw : (wz != wz) = false := by simp
  go_upto_region 41 with fail
  have hz := HZ.out.step (bdrew (Below.refl _ _))
  have bz := bdrew (Below.refl wB.heap.size wB)
  go_region_held3 (fun (w' : World) => w'.cell? ⟨x, 3, none⟩ = some (.bool cz) ∧ w'.cell? ⟨x, 0, none⟩ = some (.int .i64 wz)) (exact HS.out _ hz)
    (first
      | (go_at_call 20; ((with_reducible refine (CM1.out _ hz).mono ?_); rintro eA wA ⟨rfl, bA⟩; have hz2 := hz.step bA; have bz2 := bstep bA bz; clear hz bz bA; have hz := hz2; have bz := bz2; clear hz2 bz2))
      | (go_at_call 21; ((with_reducible refine (CM2.out _ hz).mono ?_); rintro eB wB ⟨rfl, bB⟩; have hz2 := hz.step bB; have bz2 := bstep bB bz; clear hz bz bB; have hz := hz2; have bz := bz2; clear hz2 bz2))
      | (go_at_call 24; ((with_reducible refine (CC.out _ hz).mono ?_); rintro eC wC ⟨rfl, rfl⟩))
      | (go_at_call 10; ((with_reducible refine (CW.out _ hz).mono ?_); rintro eD wD ⟨rfl, rfl⟩)))
  have HHz := Lib.hid hz
  have HBz := Lib.hid bz
  clear hz bz
  go_wp2_with fail
  refine ⟨?_, by simp [Wmu, intOf]; omega⟩
  unfold WI
  refine ⟨_, _, _, _, _, _, _, _, _, _, _, _, _, _, _, _, _, _, _, _, _, _, _, _, _, _, _, _, _, _, _, _, _, _, _, _, _, _, _, _, _, _, _, _, _, _, _, _, _, _, _, _, _, _, _, _, _, _, _, _, _, _, _, _, _, _, _, _, _, _, _, _, _, _, _, _, _, _, _, _, _, _, _, _, _, _, _, _, _, _, _, _, _, _, _, _, _, _, _, _, _, _, _, _, _, _, _, _, _, _, _, _, _, _, _, _, _, _, _, _, _, _, _, _, _, _, _, _, _, _, _, _, _, _, _, _, _, _, _, _, _, _, _, _, _, _, _, _, _, _, _, _, _, _, _, _, _, _, _, _, _, _, _, _, _, _, _, _, _, _, _, _, _, _, _, _, _, _, _, _, _, _, _, _, _, _, _, _, _, _, _, _, _, _, _, _, _, _, _, _, _, _, _, _, _, _, _, _, _, _, _, _, _, _, _, _, _, _, _, _, _, _, _, _, _, _, _, _, _, _, _, j + 1, _, ⟨qz, U, AU, nU, cU, tU, by omega, by omega, HHz.out, HBQz.out, Blk.step HBz.out HBUz.out, HTUz.out.step HBz.out, HRUz.out⟩, ?_, rfl⟩
  omega
end Go.Proofs.YtapiehddcdnadaaGreatDoor

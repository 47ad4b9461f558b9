/- Small words for the walks of this seat: a block that is known whole, what lies below the call's own blocks, facts kept from the walk. Plain lemmas on worlds; no program in sight. The gate's functions (Set, New, See, open, Turn, the chapter's own, the examples): each returns what its plain Lean twin says, whatever it is given; what lay in memory stays. No condition. What an argument that is a slice of whole numbers gives: its numbers, where they lie, how many they may be. Plain lemmas; no program in sight. Rows of whole numbers that the call made, and append onto them: of numbers that came in, or of one. Plain lemmas; no program in sight. What an argument that is a slice of structs gives: each field of each element where it lies, with its own reading. Plain lemmas; no program in sight. -/
import Derived.WalkKit
import Derived.WalkSpells
import Derived.WalkLawsBesides
import Derived.Outline
import Derived.Lib.Hide
import Derived.Deep.QuietTactic
import Derived.BigQuiet
import Derived.Deep.RegionWith
import Derived.Deep.RegionHeld3
import Derived.Deep.Draws
import Derived.Laws.OwnMore
import Derived.Laws.Rows
import Derived.Laws.StructEq
import Derived.Test.YtapiehddcdnadaaGreatDoorProg
import Derived.OpenShut
import Derived.SizedLaws
import Derived.Lib.SmallJoins
import Derived.Maps.AppendAt
import Derived.RegionTactic
import Derived.OwnWalk
import Derived.Deep.Slices
import Derived.Deep.Fields
import Derived.ChangeSame
namespace Go.Proofs.YtapiehddcdnadaaGreatDoor
open Go.RowKit

/-- Block g is just the cells cs of element type t, none frozen. -/
def Blk (w : World) (g : Nat) (t : TypeId) (cs : Array Value) : Prop := w.heap[g]? = some (.cells cs t (0, 0))

section
variable {w w' W w1 : World} {g : Nat} {t : TypeId} {cs : Array Value}
theorem Blk.lt (h : Blk w g t cs) : g < w.heap.size := by
  rcases Nat.lt_or_ge g w.heap.size with hlt | hge
  · exact hlt
  · unfold Blk at h; rw [Array.getElem?_eq_none hge] at h; cases h
theorem Blk.cell (h : Blk w g t cs) (i : Nat) : w.cell? ⟨g, i, none⟩ = cs[i]? := by
  unfold Blk at h
  simp [World.cell?, h]
theorem Blk.cellAt {u : Value} (h : Blk w g t cs) (i : Nat) (hi : cs[i]? = some u) : w.cell? ⟨g, i, none⟩ = some u := (h.cell i).trans hi
theorem Blk.frozen (h : Blk w g t cs) (i : Nat) : w.frozen? ⟨g, i, none⟩ = false := by
  unfold Blk at h
  simp [World.frozen?, h]
theorem Blk.new (w : World) (t : TypeId) (cs : Array Value) : Blk (w.alloc (.cells cs t)) w.heap.size t cs := heap_alloc_new w _
theorem Blk.newAt (hg : w.heap.size = g) : Blk (w.alloc (.cells cs t)) g t cs := by subst hg; exact Blk.new w t cs
theorem Blk.lt_cell {p : Addr} {v : Value} (h : w.cell? p = some v) : p.block < w.heap.size := by
  rcases Nat.lt_or_ge p.block w.heap.size with hlt | hge
  · exact hlt
  · unfold World.cell? at h; rw [Array.getElem?_eq_none hge] at h; cases h
theorem Blk.drew (h : Blk w g t cs) : Blk w.drew g t cs := h
theorem Blk.drewN (h : Blk w g t cs) (n : Nat) : Blk (w.drewN n) g t cs := h
theorem Blk.alloc (h : Blk w g t cs) (o : Obj) : Blk (w.alloc o) g t cs := (Below.heap_alloc w o g h.lt).trans h
theorem Blk.put (h : Blk w g t cs) (i : Nat) (u : Value) : Blk (w.setCell ⟨g, i, none⟩ u) g t (cs.setIfInBounds i u) := by
  unfold Blk at h ⊢
  simp [World.setCell, Array.getElem?_modify, h]
theorem Blk.far (h : Blk w g t cs) {p : Addr} (hp : g ≠ p.block) (u : Value) : Blk (w.setCell p u) g t cs := (Below.heap_setCell w p u g hp).trans h
theorem Blk.below {B : Nat} (hb : Below B w w') (hg : g < B) (h : Blk w g t cs) : Blk w' g t cs := (hb.block g hg).trans h
theorem Blk.step (hb : Below w.heap.size w w') (h : Blk w g t cs) : Blk w' g t cs := (hb.block g h.lt).trans h
theorem Blk.grown {row : Option Nat} (hb : w.grownBy w' row) (h : Blk w g t cs) (hg : some g ≠ row) : Blk w' g t cs := (hb.block g h.lt hg).trans h
theorem Blk.ne_ {g' : Nat} {t' : TypeId} {cs' : Array Value} (h : Blk w g t cs) (h' : Blk w g' t' cs') (hne : t ≠ t') : g ≠ g' := by
  rintro rfl
  unfold Blk at h h'
  rw [h] at h'
  injection h' with h'
  injection h' with _ ht
  exact hne ht
theorem Blk.same {cs' : Array Value} (h : Blk w g t cs) (h' : Blk w g t cs') : cs = cs' := by
  unfold Blk at h h'
  rw [h] at h'
  injection h' with h'
  injection h' with hc _

theorem bstep (hb : Below W.heap.size W w1) (h : Below w.heap.size w W) : Below w.heap.size w w1 := h.trans (hb.mono h.size)
theorem balloc (h : Below w.heap.size w W) (o : Obj) : Below w.heap.size w (W.alloc o) := h.alloc h.size o
theorem bdrew {B : Nat} (h : Below B w W) : Below B w W.drew := h.drew
theorem bdrewN {B : Nat} (h : Below B w W) (n : Nat) : Below B w (W.drewN n) := ⟨h.os, h.tape, h.output, h.size, h.block⟩
theorem bset {B : Nat} (h : Below B w W) {p : Addr} (hp : B ≤ p.block) (u : Value) : Below B w (W.setCell p u) := h.setCell hp u
theorem bgrown {row : Option Nat} (h : Below w.heap.size w W) (hg : W.grownBy w1 row) (hr : ∀ k, row = some k → w.heap.size ≤ k) : Below w.heap.size w w1 := h.grown hg h.size hr
theorem bcell (hb : Below W.heap.size W w1) : (∀ b o, b < W.heap.size → w1.cell? ⟨b, o, none⟩ = W.cell? ⟨b, o, none⟩) ∧ (∀ b o, b < W.heap.size → w1.frozen? ⟨b, o, none⟩ = W.frozen? ⟨b, o, none⟩) :=
  ⟨fun b o h => hb.cell (p := ⟨b, o, none⟩) h, fun b o h => hb.frozen (p := ⟨b, o, none⟩) h⟩

/-- Only block g (or what is new) has turned. -/
theorem only_refl (w : World) (row : Option Nat) : w.grownBy w row := World.grownBy.refl w _
theorem only_drewN {row : Option Nat} (h : w.grownBy w' row) (n : Nat) : w.grownBy (w'.drewN n) row := ⟨h.os, h.tape, h.output, h.size, h.block⟩
theorem only_drew {row : Option Nat} (h : w.grownBy w' row) : w.grownBy w'.drew row := ⟨h.os, h.tape, h.output, h.size, h.block⟩
theorem only_alloc {row : Option Nat} (h : w.grownBy w' row) (o : Obj) : w.grownBy (w'.alloc o) row :=
  ⟨h.os, h.tape, h.output, Nat.le_trans h.size (by simp), fun i hi hne => (Below.heap_alloc w' o i (Nat.lt_of_lt_of_le hi h.size)).trans (h.block i hi hne)⟩
theorem only_setCell (h : w.grownBy w' (some g)) {p : Addr} (hp : p.block = g ∨ w.heap.size ≤ p.block) (u : Value) : w.grownBy (w'.setCell p u) (some g) :=
  ⟨h.os, h.tape, h.output, by simpa [World.setCell] using h.size, fun i hi hne => (Below.heap_setCell w' p u i (by
    rintro rfl
    rcases hp with hp | hp
    · exact hne (by rw [hp])
    · omega)).trans (h.block i hi hne)⟩
theorem only_of_below (h : Below w.heap.size w w') (row : Option Nat) : w.grownBy w' row := ⟨h.os, h.tape, h.output, h.size, fun i hi _ => h.block i hi⟩
theorem only_step {row : Option Nat} (hb : Below w'.heap.size w' w1) (h : w.grownBy w' row) : w.grownBy w1 row :=
  ⟨hb.os.trans h.os, hb.tape.trans h.tape, hb.output.trans h.output, Nat.le_trans h.size hb.size, fun i hi hn => (hb.block i (Nat.lt_of_lt_of_le hi h.size)).trans (h.block i hi hn)⟩
theorem only_trans {row : Option Nat} (h : w.grownBy w' row) (k : w'.grownBy w1 row) : w.grownBy w1 row :=
  ⟨k.os.trans h.os, k.tape.trans h.tape, k.output.trans h.output, Nat.le_trans h.size k.size, fun i hi hn => (k.block i (Nat.lt_of_lt_of_le hi h.size) hn).trans (h.block i hi hn)⟩
theorem below_of_only (h : w.grownBy w' none) : Below w.heap.size w w' := ⟨h.os, h.tape, h.output, h.size, fun i hi => h.block i hi (by simp)⟩
/-- A call that turned block g alone, g one of this call's own. -/
theorem bonly (h : Below w.heap.size w W) (k : W.grownBy w1 (some g)) (hg : w.heap.size ≤ g) : Below w.heap.size w w1 := bgrown h k (fun j hj => by cases hj; exact hg)
end

section
variable {P : Program} {d : Nat} {xs ys : Array Value} {f : Field} {fs : List Field} {a b : Value} {r s : Bool} {w : World}
/-- '==' of two structs, a field at a time. -/
theorem fields_nil : (Op.eqFields d xs ys []).run P w = .ok true w := by simp [Op.eqFields]
theorem fields_cons (hn : (f.name == "_") = false) (ha : (part f.type xs f.offset).run P w = .ok a w) (hb : (part f.type ys f.offset).run P w = .ok b w)
    (he : (Op.equalIn d f.type a b).run P w = .ok r w) (hr : (Op.eqFields d xs ys fs).run P w = .ok s w) : (Op.eqFields d xs ys (f :: fs)).run P w = .ok (r && s) w := by
  have hne : f.name ≠ "_" := by simpa using hn
  unfold Op.eqFields
  rw [if_pos hne]
  simp only [Sem.run_bind, ha, hb, he, Result.andThen_ok]
  cases r
  · simp
  · simp [hr]
theorem struct_eq {t : TypeId} {gs : Array Field} (hu : P.underlying t = some (.struct gs)) (hp : P.stoodInHeld t = false) (h : (Op.eqFields d xs ys gs.toList).run P w = .ok r w) :
    (Op.equalIn (d + 1) t (.agg xs) (.agg ys)).run P w = .ok r w := by
  have hf : P.fieldsOf t = gs := by simp [Program.fieldsOf, hu]
  rw [run_equalIn_struct (P := P) w d t xs ys (by rw [hf]; exact hu) hp, hf]
  exact h
end

theorem ret_int {k : IntKind} {a b : Int} (h : a = b) : Ending.returned (.int k a) = .returned (.int k b) := by rw [h]
theorem ret_bool {a b : Bool} (h : a = b) : Ending.returned (.bool a) = .returned (.bool b) := by rw [h]
theorem ret_true {a : Bool} (h : a = true) : Ending.returned (.bool a) = .returned (.bool true) := by rw [h]
end Go.Proofs.YtapiehddcdnadaaGreatDoor
namespace Go.Proofs.YtapiehddcdnadaaGreatDoor
open Go.RowKit
set_option linter.unusedVariables false
set_option linter.unusedSimpArgs false

theorem ret_agg3 {c d : Bool} {a b a' b' : Int} (h0 : c = d) (h1 : a = a') (h2 : b = b') : Ending.returned (.agg #[.bool c, .int .u64 a, .int .u64 b]) = .returned (.agg #[.bool d, .int .u64 a', .int .u64 b']) := by rw [h0, h1, h2]

theorem fld24_0 (c : Bool) (lo hi : Int) (w : World) : (Instr.field 79 (.agg #[.bool c, .int .u64 lo, .int .u64 hi]) 0).run Tryz.prog w = .ok (.bool c) w := by kernel_rfl
theorem fld24_1 (c : Bool) (lo hi : Int) (w : World) : (Instr.field 79 (.agg #[.bool c, .int .u64 lo, .int .u64 hi]) 1).run Tryz.prog w = .ok (.int .u64 lo) w := by kernel_rfl
theorem fld24_2 (c : Bool) (lo hi : Int) (w : World) : (Instr.field 79 (.agg #[.bool c, .int .u64 lo, .int .u64 hi]) 2).run Tryz.prog w = .ok (.int .u64 hi) w := by kernel_rfl
attribute [local go_sem] fld24_0 fld24_1 fld24_2

theorem gset_any (c : Bool) (lo hi a b : Int) (w : World) :
    Calls Tryz.prog 38 #[.agg #[.bool c, .int .u64 lo, .int .u64 hi], .int .u64 a, .int .u64 b] w fun e w' => e = .returned (.agg #[.bool c, .int .u64 (min a b), .int .u64 b]) ∧ Below w.heap.size w w' := by
  go_enter Tryz.func38, Tryz.ntmps38
  go_wp2
  all_goals first
    | exact bodyPost_ret (v := .agg #[.bool c, .int .u64 a, .int .u64 b]) (by simp [results, Tryz.results38, go_sem]) rfl ⟨ret_agg3 rfl (by omega) rfl, balloc (balloc (Below.refl _ _) _) _⟩
    | exact bodyPost_ret (v := .agg #[.bool c, .int .u64 b, .int .u64 b]) (by simp [results, Tryz.results38, go_sem]) rfl ⟨ret_agg3 rfl (by omega) rfl, balloc (balloc (Below.refl _ _) _) _⟩

theorem gsee_any (c : Bool) (lo hi n : Int) (w : World) :
    Calls Tryz.prog 59 #[.agg #[.bool c, .int .u64 lo, .int .u64 hi], .int .u64 n] w fun e w' => e = .returned (.agg #[.bool (c || decide (hi ≤ n)), .int .u64 lo, .int .u64 hi]) ∧ Below w.heap.size w w' := by
  cases c
  · go_enter Tryz.func59, Tryz.ntmps59
    go_wp2
    exact bodyPost_ret (v := .agg #[.bool (decide (hi ≤ n)), .int .u64 lo, .int .u64 hi]) (by simp [results, Tryz.results59, go_sem]) rfl ⟨ret_agg3 (by simp) rfl rfl, balloc (balloc (Below.refl _ _) _) _⟩
  · go_enter Tryz.func59, Tryz.ntmps59
    go_wp2
    exact bodyPost_ret (v := .agg #[.bool true, .int .u64 lo, .int .u64 hi]) (by simp [results, Tryz.results59, go_sem]) rfl ⟨ret_agg3 (by simp) rfl rfl, balloc (balloc (Below.refl _ _) _) _⟩

theorem gnew_any (a b : Int) (w : World) :
    Calls Tryz.prog 29 #[.int .u64 a, .int .u64 b] w fun e w' => e = .returned (.agg #[.bool false, .int .u64 (min a b), .int .u64 b]) ∧ Below w.heap.size w w' := by
  go_enter Tryz.func29, Tryz.ntmps29
  go_wp2_with (go_at_call 38; refine (gset_any _ _ _ _ _ _).mono ?_; rintro e w1 ⟨rfl, hb⟩; obtain ⟨hc, hf⟩ := bcell hb; have hz : w.heap.size < w1.heap.size := (by have := hb.size; simp at this; omega))
  refine bodyPost_ret (v := .agg #[.bool false, .int .u64 (min a b), .int .u64 b]) (by simp [results, Tryz.results29, go_sem, hc, hf, hz]) rfl ⟨rfl, ?_⟩
  repeat refine Below.setCell ?_ (by simp) _
  exact bstep hb (balloc (Below.refl _ _) _)

theorem eqA24 (d : Nat) (w : World) (x0 y0 : Bool) (x1 y1 : Int) (x2 y2 : Int) :
    (Op.equalIn (d + 2) 79 (.agg #[.bool x0, .int .u64 x1, .int .u64 x2]) (.agg #[.bool y0, .int .u64 y1, .int .u64 y2])).run Tryz.prog w = .ok (x0 == y0 && (x1 == y1 && (x2 == y2 && true))) w := by
  refine struct_eq Tryz.underlying79 (by kernel_rfl) ?_
  refine fields_cons (by rfl) (by go_simp; rfl) (by go_simp; rfl) (by go_simp) ?_
  refine fields_cons (by rfl) (by go_simp; rfl) (by go_simp; rfl) (by go_simp) ?_
  exact fields_cons (by rfl) (by go_simp; rfl) (by go_simp; rfl) (by go_simp) fields_nil
theorem eq24 (w : World) (x0 y0 : Bool) (x1 y1 : Int) (x2 y2 : Int) :
    (Op.equalIn 10000 79 (.agg #[.bool x0, .int .u64 x1, .int .u64 x2]) (.agg #[.bool y0, .int .u64 y1, .int .u64 y2])).run Tryz.prog w = .ok (x0 == y0 && (x1 == y1 && (x2 == y2))) w := by
  have h := eqA24 9998 w x0 y0 x1 y1 x2 y2
  rw [Bool.and_true] at h
  exact h
attribute [local go_sem high] eq24
theorem guard24 : Tryz.prog.eqGuardType Tryz.prog.depth 79 = false := by kernel_rfl

theorem gopen_any (c : Bool) (lo hi : Int) (w : World) :
    Calls Tryz.prog 67 #[.agg #[.bool c, .int .u64 lo, .int .u64 hi]] w fun e w' => e = .returned (.bool (c == false && (lo == min lo hi && hi == hi))) ∧ Below w.heap.size w w' := by
  have hg := guard24
  go_enter Tryz.func67, Tryz.ntmps67
  go_wp2_with fail
  go_region_held3 (fun w' => w'.cell? ⟨w.heap.size, 0, none⟩ = some (.bool c) ∧ w'.cell? ⟨w.heap.size, 1, none⟩ = some (.int .u64 lo) ∧ w'.cell? ⟨w.heap.size, 2, none⟩ = some (.int .u64 hi)) (first | exact ⟨by simp, by simp, by simp⟩ | exact ⟨(hc _ _ (by simp)).trans (by simp), (hc _ _ (by simp)).trans (by simp), (hc _ _ (by simp)).trans (by simp)⟩)
    (first | (go_at_call 29; refine (gnew_any _ _ _).mono ?_; rintro e w1 ⟨rfl, hb⟩; have hc := (bcell hb).1))
  go_wp2
  go_ret
  exact ⟨by simp, bstep hb (Below.drew (balloc (Below.refl _ _) _))⟩

theorem gturn_any (c : Bool) (lo hi n : Int) (w : World) :
    Calls Tryz.prog 35 #[.agg #[.bool c, .int .u64 lo, .int .u64 hi], .int .u64 n] w fun e w' => e = .returned (.agg #[.bool (c && decide (lo < n)), .int .u64 lo, .int .u64 hi]) ∧ Below w.heap.size w w' := by
  obtain ⟨o, ho⟩ : ∃ o, o = (c == false && (lo == min lo hi && hi == hi)) := ⟨_, rfl⟩
  have hopen : ∀ w, Calls Tryz.prog 67 #[.agg #[.bool c, .int .u64 lo, .int .u64 hi]] w fun e w' => e = .returned (.bool o) ∧ Below w.heap.size w w' := by rw [ho]; exact gopen_any c lo hi
  have hcases : (o = true ∧ c = false) ∨ (o = false ∧ c = false) ∨ (o = false ∧ c = true) := by
    rw [ho]; cases c
    · cases (false == false && (lo == min lo hi && hi == hi)) <;> simp
    · simp
  have Hopen := Lib.hid hopen
  clear hopen ho
  rcases hcases with ⟨rfl, rfl⟩ | ⟨rfl, rfl⟩ | ⟨rfl, rfl⟩
  all_goals
    go_enter Tryz.func35, Tryz.ntmps35
    go_wp2_with (go_at_call 67; refine (Hopen.out _).mono ?_; rintro e w1 ⟨rfl, hb⟩; have B0 := Blk.step hb ((Blk.new _ _ _).alloc _); have B1 := Blk.step hb (Blk.newAt (g := w.heap.size + 1) (by simp)); have C0 := B0.cell; have C1 := B1.cell; have F0 := B0.frozen; have F1 := B1.frozen)
    refine bodyPost_ret (by simp [results, Tryz.results35, go_sem, C0, C1, F0, F1]; rfl) rfl ⟨ret_agg3 (by simp) rfl rfl, ?_⟩
    repeat refine bset ?_ (by simp) _
    exact bstep hb (balloc (balloc (Below.refl _ _) _) _)

theorem rgnew_any (a b : Int) (w : World) :
    Calls Tryz.prog 33 #[.int .u64 a, .int .u64 b] w fun e w' => e = .returned (.agg #[.bool false, .int .u64 (min a b), .int .u64 b]) ∧ Below w.heap.size w w' := by
  go_enter Tryz.func33, Tryz.ntmps33
  go_wp2
  all_goals
    refine bodyPost_ret (by simp [results, Tryz.results33, go_sem]; rfl) rfl ⟨ret_agg3 rfl (by omega) rfl, ?_⟩
    exact balloc (Below.refl _ _) _
theorem rgsee_any (c : Bool) (lo hi n : Int) (w : World) :
    Calls Tryz.prog 64 #[.agg #[.bool c, .int .u64 lo, .int .u64 hi], .int .u64 n] w fun e w' => e = .returned (.agg #[.bool (c || decide (hi ≤ n)), .int .u64 lo, .int .u64 hi]) ∧ Below w.heap.size w w' := by
  go_enter Tryz.func64, Tryz.ntmps64
  go_wp2
  all_goals
    refine bodyPost_ret (by simp [results, Tryz.results64, go_sem]; rfl) rfl ⟨ret_agg3 (by simp; omega) rfl rfl, ?_⟩
    exact balloc (balloc (Below.refl _ _) _) _
theorem rgturn_any (c : Bool) (lo hi n : Int) (w : World) :
    Calls Tryz.prog 40 #[.agg #[.bool c, .int .u64 lo, .int .u64 hi], .int .u64 n] w fun e w' => e = .returned (.agg #[.bool (c && decide (lo < n)), .int .u64 lo, .int .u64 hi]) ∧ Below w.heap.size w w' := by
  go_enter Tryz.func40, Tryz.ntmps40
  go_wp2
  all_goals
    refine bodyPost_ret (by simp [results, Tryz.results40, go_sem]; rfl) rfl ⟨ret_agg3 (by simp; omega) rfl rfl, ?_⟩
    exact balloc (balloc (Below.refl _ _) _) _
theorem rgset_any (c : Bool) (lo hi a b : Int) (w : World) :
    Calls Tryz.prog 42 #[.agg #[.bool c, .int .u64 lo, .int .u64 hi], .int .u64 a, .int .u64 b] w fun e w' => e = .returned (.agg #[.bool c, .int .u64 (min a b), .int .u64 b]) ∧ Below w.heap.size w w' := by
  go_enter Tryz.func42, Tryz.ntmps42
  go_wp2_with fail
  refine (rgnew_any _ _ _).mono ?_
  rintro e w1 ⟨rfl, hb⟩
  have B0 := Blk.step hb ((Blk.new _ _ _).alloc _)
  have C0 := B0.cell
  have L0 := B0.lt
  have F0 := B0.frozen
  have B1 := Blk.step hb (Blk.newAt (g := w.heap.size + 1) (by simp))
  have C1 := B1.cell
  have L1 := B1.lt
  have F1 := B1.frozen
  go_wp2_with fail
  refine bodyPost_ret (by simp [results, Tryz.results42, go_sem, C1, F1, L1]) rfl ⟨ret_agg3 rfl rfl rfl, ?_⟩
  exact balloc (bset (bset (bset (bstep hb (balloc (balloc (Below.refl _ _) _) _)) (by simp) _) (by simp) _) (by simp) _) _

end Go.Proofs.YtapiehddcdnadaaGreatDoor
namespace Go.Proofs.YtapiehddcdnadaaGreatDoor
open Go.RowKit Go.ChangeShapes Go.WideShapes Go.ChangeAt
set_option linter.unusedVariables false
set_option linter.unusedSimpArgs false

/-- The slice at a of n elements holds the numbers xs (of kind k). -/
structure Ints (k : IntKind) (w : World) (a : Option Addr) (n : Nat) (xs : List Int) : Prop where
  len : xs.length = n
  wf : ∀ x ∈ xs, (Lit.int k x).wf = true
  at_ : 0 < n → ∃ b off, a = some ⟨b, off, none⟩ ∧ b < w.heap.size ∧ ∀ i, i < n → w.cell? ⟨b, off + i, none⟩ = some (.int k (xs.getD i 0))

theorem cell_lt {w : World} {p : Addr} {v : Value} (h : w.cell? p = some v) : p.block < w.heap.size := by
  rcases Nat.lt_or_ge p.block w.heap.size with hlt | hge
  · exact hlt
  · unfold World.cell? at h
    rw [Array.getElem?_eq_none hge] at h
    cases h

theorem Ints.step {k : IntKind} {w w' : World} {a : Option Addr} {n : Nat} {xs : List Int} (hb : Below w.heap.size w w') (h : Ints k w a n xs) : Ints k w' a n xs :=
  ⟨h.len, h.wf, fun hn => by
    obtain ⟨b, off, ha, hlt, hc⟩ := h.at_ hn
    exact ⟨b, off, ha, Nat.lt_of_lt_of_le hlt hb.size, fun i hi => (hb.cell (p := ⟨b, off + i, none⟩) hlt).trans (hc i hi)⟩⟩

theorem Ints.nil (k : IntKind) (w : World) (a : Option Addr) : Ints k w a 0 [] := ⟨rfl, (fun x hx => (by cases hx)), fun h => absurd h (by omega)⟩

theorem take_getD (zs : List Int) (n i : Nat) (h : i < n) : (zs.take n).getD i 0 = zs.getD i 0 := by
  simp [List.getD_eq_getElem?_getD, List.getElem?_take, h]

theorem ints_open {H : Type} {enc : TypeId × Value → H} {P : Program} {W : World} {base : Nat} {held : Bool} {t e : TypeId} {k : IntKind} {a : Option Addr} {len cap : Nat} {d : DataW H} {ps : List MemPlace}
    (hu : P.underlying t = some (.slice e)) (he : P.underlying e = some (.int k)) (hc : P.cellsOf e = 1)
    (h : DataW.Trod enc P W base (fun _ => true) held t (.slice a len cap) d ps) : ∃ xs, Ints k W a len xs ∧ len ≤ cap := by
  obtain ⟨fuel, hf⟩ := h
  rcases open_ints hu he hc hf with ⟨hcs, _⟩ | ⟨x, l, c, zs, hcs, _, hl, _, hz, _, hcell, hwz⟩
  · simp [Value.cells] at hcs
    obtain ⟨rfl, rfl, rfl⟩ := hcs
    exact ⟨[], Ints.nil k W none, Nat.le_refl _⟩
  · simp [Value.cells] at hcs
    obtain ⟨rfl, rfl, rfl⟩ := hcs
    have hzl : zs.length = cap := by simpa using hz
    refine ⟨zs.take len, ⟨by rw [List.length_take]; omega, fun y hy => hwz y (List.mem_of_mem_take hy), fun hn => ?_⟩, hl⟩
    obtain ⟨b, off, hx, hcc⟩ := ints_at hcell (by omega)
    exact ⟨b, off, by rw [hx], cell_lt (hcc 0 (by omega)), fun i hi => by rw [take_getD _ _ _ hi]; exact hcc i (by omega)⟩

theorem ints_sized {H : Type} {enc : TypeId × Value → H} {P : Program} {W : World} {base : Nat} {held : Bool} {t e : TypeId} {k : IntKind} {a : Option Addr} {len cap : Nat} {d : DataW H} {ps : List MemPlace} {ts : List TypeId} {ds : List (DataW H)} {j : Nat}
    (hsz : (DataW.weightsEach P ts ds).all (· ≤ reachBytes) = true) (ht : ts[j]? = some t) (hd : ds[j]? = some d) (hu : P.underlying t = some (.slice e)) (he : P.underlying e = some (.int k)) (hc : P.cellsOf e = 1) {B : Nat} (hB : P.bytesOf e = B)
    (h : DataW.Trod enc P W base (fun _ => true) held t (.slice a len cap) d ps) : len * B ≤ 140737488351232 := by
  obtain ⟨fuel, hf⟩ := h
  rcases open_ints hu he hc hf with ⟨hcs, _⟩ | ⟨x, l, c, zs, hcs, _, hl, _, hz, hx, _, _⟩
  · simp [Value.cells] at hcs
    obtain ⟨rfl, rfl, rfl⟩ := hcs
    simp
  · simp [Value.cells] at hcs
    obtain ⟨rfl, rfl, rfl⟩ := hcs
    obtain ⟨hx, _⟩ := Prod.mk.inj hx
    subst hx
    have z := sized_slice hsz ht hd hu
    rw [hB] at z
    have hzl : zs.length = cap := by simpa using hz
    simp only [lits, List.length_map, List.length_take, List.length_drop, reachBytes] at z
    have h1 : len * B ≤ (min len zs.length + (zs.length - len)) * B := Nat.mul_le_mul_right _ (by omega)
    omega
end Go.Proofs.YtapiehddcdnadaaGreatDoor
namespace Go.Proofs.YtapiehddcdnadaaGreatDoor
open Go.RowKit
set_option linter.unusedVariables false
set_option linter.unusedSimpArgs false

theorem addr_add (b off j : Nat) : (⟨b, off, none⟩ : Addr).add j = ⟨b, off + j, none⟩ := by
  unfold Addr.add; split <;> simp_all

/-- The slice at A of n elements, made by the call (no block below base), holds the numbers xs. -/
structure Own (k : IntKind) (e : TypeId) (w : World) (base : Nat) (A : Option Addr) (n c : Nat) (xs : List Int) : Prop where
  own : w.ownsRow base e 1 (.slice A n c) n (xs.map (Value.int k))
  wf : ∀ x ∈ xs, (Lit.int k x).wf = true

section
variable {k : IntKind} {e : TypeId} {w w' : World} {base : Nat} {A : Option Addr} {n c : Nat} {xs : List Int}
theorem Own.nil : Own k e w base none 0 0 [] := ⟨World.ownsRow_nil w base e 1, fun x hx => by cases hx⟩
theorem Own.len (h : Own k e w base A n c xs) : xs.length = n := by have := h.own.1; simpa using this
theorem Own.le (h : Own k e w base A n c xs) : n ≤ c := by
  rcases h.own.2 with ⟨e1, e2⟩ | ⟨g, cap, cur, e1, hb, hg, hnc, hcm, hcs, ht⟩
  · injection e1 with _ h0 _; omega
  · injection e1 with h0 h1 h2; omega
theorem Own.ints (h : Own k e w base A n c xs) : Ints k w A n xs := by
  refine ⟨h.len, h.wf, fun hn => ?_⟩
  rcases h.own.2 with ⟨e1, e2⟩ | ⟨g, cap, cur, e1, hb, hg, hnc, hcm, hcs, ht⟩
  · injection e1 with _ h0 _; omega
  · injection e1 with h0 h1 h2
    subst h0
    have hc := h.own.cells (g := g) rfl
    refine ⟨g, 0, rfl, ?_, fun i hi => ?_⟩
    · rcases Nat.lt_or_ge g w.heap.size with h3 | h3
      · exact h3
      · rw [Array.getElem?_eq_none h3] at hg; cases hg
    · have h4 := hc i (.int k (xs.getD i 0)) (by rw [List.getElem?_map, List.getD_eq_getElem?_getD, List.getElem?_eq_getElem (by rw [h.len]; exact hi)]; rfl)
      rw [addr_add] at h4; exact h4
theorem Own.kept {row : Option Nat} (hg : w.grownBy w' row) (h : Own k e w base A n c xs) (hne : Value.ownBlock (.slice A n c) = none ∨ Value.ownBlock (.slice A n c) ≠ row) : Own k e w' base A n c xs := ⟨h.own.kept hg hne, h.wf⟩
theorem Own.step (hb : Below w.heap.size w w') (h : Own k e w base A n c xs) : Own k e w' base A n c xs := by
  refine h.kept (only_of_below hb none) ?_
  rcases Value.ownBlock (.slice A n c) with _ | g
  · exact .inl rfl
  · exact .inr (by simp)
theorem Own.lt (h : Own k e w base A n c xs) (g : Nat) (hg : Value.ownBlock (.slice A n c) = some g) : base ≤ g ∧ g < w.heap.size := h.own.lt g hg
/-- An append turned nothing below the call's own blocks. -/
theorem Own.below {W : World} (h : Own k e w base A n c xs) (hB : Below base W w) (hb : base ≤ w.heap.size) (hg : w.grownBy w' (Value.ownBlock (.slice A n c))) : Below base W w' :=
  ⟨hg.os.trans hB.os, hg.tape.trans hB.tape, hg.output.trans hB.output, Nat.le_trans hB.size hg.size, fun i hi => (hg.block i (Nat.lt_of_lt_of_le hi hb) (fun e => by have := (h.lt i e.symm).1; omega)).trans (hB.block i hi)⟩
end

theorem ints_one {k : IntKind} {w : World} {g : Nat} {t : TypeId} {x : Int} (h : Blk w g t #[.int k x]) (hx : (Lit.int k x).wf = true) : Ints k w (some ⟨g, 0, none⟩) 1 [x] :=
  ⟨rfl, fun y hy => by rw [List.mem_singleton.1 hy]; exact hx, fun _ => ⟨g, 0, rfl, h.lt, fun i hi => by
    obtain rfl : i = 0 := by omega
    exact h.cellAt 0 rfl⟩⟩

section
variable {P : Program} (w : World)
theorem run_app_none (t ty e : TypeId) (i : TypeInfo) (ht : P.underlying t = some (.slice e)) (hi : P.info? e = some i) {k : IntKind} {base : Nat} {A : Option Addr} {n c : Nat} {xs : List Int} (h : Own k e w base A n c xs) (c2 : Nat) :
    (Builtin.append_ #[t, t] ty #[.slice A n c, .slice none 0 c2]).run P w = .ok (.slice A n c) w := by
  rcases h.own.2 with ⟨h0, rfl⟩ | ⟨g, cap, cur, h0, _, _, hnc, _⟩ <;> rw [h0]
  · simp [Builtin.append_, run_underlying ht, sizeOf, typeInfo, hi, Builtin.lenOf, Builtin.firstCells]
  · simp [Builtin.append_, run_underlying ht, sizeOf, typeInfo, hi, Builtin.lenOf, Builtin.firstCells, hnc, storeCells]

theorem ints_cells {k : IntKind} {ad : Addr} {m : Nat} {ys : List Int} (h : Ints k w (some ad) m ys) : ∀ j u, (ys.map (Value.int k))[j]? = some u → w.cell? (ad.add j) = some u := by
  intro j u hu
  rw [List.getElem?_map] at hu
  have hj : j < ys.length := by
    rcases Nat.lt_or_ge j ys.length with h1 | h1
    · exact h1
    · rw [List.getElem?_eq_none h1] at hu; cases hu
  have hl := h.len
  obtain ⟨b, off, ha, hlt, hc⟩ := h.at_ (by omega)
  obtain rfl : ad = ⟨b, off, none⟩ := Option.some.inj ha
  rw [List.getElem?_eq_getElem hj] at hu
  have h2 := hc j (by omega)
  rw [List.getD_eq_getElem?_getD, List.getElem?_eq_getElem hj] at h2
  rw [← Option.some.inj hu]
  rw [addr_add]; exact h2

theorem run_app (t ty e : TypeId) (i : TypeInfo) (bytes : Nat) {k : IntKind} (ht : P.underlying t = some (.slice e)) (hi : P.info? e = some i) (hz : i.zero = some (.int k 0)) (hsize : i.size = 1) (hby : i.bytes = bytes)
    {base : Nat} {A : Option Addr} {n c : Nat} {xs : List Int} (h : Own k e w base A n c xs) {A2 : Option Addr} {m : Nat} (c2 : Nat) {ys : List Int} (hs : Ints k w A2 m ys)
    (hbytes : (n + m) * bytes ≤ 140737488355328) (hb8 : 1 ≤ bytes) (hbase : base ≤ w.heap.size) :
    ∃ A' c' w', (Builtin.append_ #[t, t] ty #[.slice A n c, .slice A2 m c2]).run P w = .ok (.slice A' (n + m) c') w' ∧ Own k e w' base A' (n + m) c' (xs ++ ys) ∧ w.grownBy w' (Value.ownBlock (.slice A n c)) ∧
      (Value.ownBlock (.slice A' (n + m) c') = Value.ownBlock (.slice A n c) ∨ Value.ownBlock (.slice A' (n + m) c') = some w.heap.size) := by
  have hwf : ∀ x ∈ xs ++ ys, (Lit.int k x).wf = true := fun x hx => by rcases List.mem_append.1 hx with h1 | h1; exact h.wf x h1; exact hs.wf x h1
  have h63 : n + m ≤ maxLen := by
    have := Nat.le_mul_of_pos_right (n + m) hb8
    simp only [maxLen]; omega
  rcases A2 with _ | ad
  · obtain rfl : m = 0 := by
      rcases Nat.eq_zero_or_pos m with h0 | h0
      · exact h0
      · obtain ⟨b, off, ha, _⟩ := hs.at_ h0; cases ha
    obtain rfl : ys = [] := List.eq_nil_of_length_eq_zero hs.len
    exact ⟨A, c, w, run_app_none w t ty e i ht hi h c2, by rw [List.append_nil]; exact h, only_refl _ _, .inl rfl⟩
  · obtain ⟨v', w', hr, h2, h3, _, h5⟩ := run_append_own_at (P := P) w base t ty e i _ 1 bytes ht hi hz hsize hby rfl (by omega) _ n _ h.own ad m c2 (ys.map (Value.int k)) (by simpa using hs.len) (ints_cells w hs)
      (fun u hu => by obtain ⟨x, _, rfl⟩ := List.mem_map.1 hu; rfl) h63 hbytes hbase
    rw [← List.map_append] at h2
    obtain ⟨A', c', rfl⟩ : ∃ A' c', v' = .slice A' (n + m) c' := by
      rcases h2.2 with ⟨rfl, h0⟩ | ⟨g, cap, cur, rfl, _⟩
      · exact ⟨none, 0, by rw [h0]⟩
      · exact ⟨_, _, rfl⟩
    exact ⟨A', c', w', hr, ⟨h2, hwf⟩, h3, h5⟩

theorem wp_app {o : Oper} {a : Act} {K : Act → World → Prop} {Q : Exit → Act → World → Prop} (s x : Operand) (t : TypeId)
    (ho : o.op = .call { callee := .builtin .append, args := #[s, x], argTypes := #[t, t] }) (e : TypeId) (i : TypeInfo) (bytes : Nat) (k : IntKind) (ht : P.underlying t = some (.slice e)) (hi : P.info? e = some i) (hz : i.zero = some (.int k 0)) (hsize : i.size = 1) (hby : i.bytes = bytes)
    (base : Nat) (A : Option Addr) (n c : Nat) (xs : List Int) (h : Own k e w base A n c xs) (hsv : a.eval s = .slice A n c) (A2 : Option Addr) (m : Nat) (c2 : Nat) (ys : List Int) (hs : Ints k w A2 m ys) (hxv : a.eval x = .slice A2 m c2)
    (hbytes : (n + m) * bytes ≤ 140737488355328) (hb8 : 1 ≤ bytes) (hbase : base ≤ w.heap.size)
    (hK : ∀ A' c' w', Own k e w' base A' (n + m) c' (xs ++ ys) → w.grownBy w' (Value.ownBlock (.slice A n c)) → (Value.ownBlock (.slice A' (n + m) c') = Value.ownBlock (.slice A n c) ∨ Value.ownBlock (.slice A' (n + m) c') = some w.heap.size) → K (a.put o.dst (.slice A' (n + m) c')) w') : o.wp P a w K Q := by
  obtain ⟨A', c', w', hr, h2, h3, h4⟩ := run_app (P := P) w t o.type e i bytes ht hi hz hsize hby h c2 hs hbytes hb8 hbase
  unfold Oper.wp execOp
  simp only [ho, resolve, invoke, builtin, Sem.run_bind, Sem.run_pure, Result.andThen_ok, List.map_toArray, List.map_cons, List.map_nil, hsv, hxv, hr]
  exact hK A' c' w' h2 h3 h4

theorem wpList_app {ops : Array Oper} {rest : List Oper} {o : Oper} {a : Act} {Q : Exit → Act → World → Prop} (hgd : o.guard = none) (s x : Operand) (t : TypeId)
    (ho : o.op = .call { callee := .builtin .append, args := #[s, x], argTypes := #[t, t] }) (e : TypeId) (i : TypeInfo) (bytes : Nat) (k : IntKind) (ht : P.underlying t = some (.slice e)) (hi : P.info? e = some i) (hz : i.zero = some (.int k 0)) (hsize : i.size = 1) (hby : i.bytes = bytes)
    (base : Nat) (A : Option Addr) (n c : Nat) (xs : List Int) (h : Own k e w base A n c xs) (hsv : a.eval s = .slice A n c) (A2 : Option Addr) (m : Nat) (c2 : Nat) (ys : List Int) (hs : Ints k w A2 m ys) (hxv : a.eval x = .slice A2 m c2)
    (hbytes : (n + m) * bytes ≤ 140737488355328) (hb8 : 1 ≤ bytes) (hbase : base ≤ w.heap.size)
    (hK : ∀ A' c' w', Own k e w' base A' (n + m) c' (xs ++ ys) → w.grownBy w' (Value.ownBlock (.slice A n c)) → (Value.ownBlock (.slice A' (n + m) c') = Value.ownBlock (.slice A n c) ∨ Value.ownBlock (.slice A' (n + m) c') = some w.heap.size) → wpList P ops Q rest (a.put o.dst (.slice A' (n + m) c')) w') : wpList P ops Q (o :: rest) a w :=
  wpList_plain hgd fun _ hk => wp_app w s x t ho e i bytes k ht hi hz hsize hby base A n c xs h hsv A2 m c2 ys hs hxv hbytes hb8 hbase fun A' c' w' h2 h3 h4 => hk _ _ (hK A' c' w' h2 h3 h4)

theorem step_app {ops : Array Oper} {o : Oper} {a : Act} {K : Act → World → Prop} {Q : Exit → Act → World → Prop} {E : Prop} (hgd : o.guard = none) (s x : Operand) (t : TypeId)
    (ho : o.op = .call { callee := .builtin .append, args := #[s, x], argTypes := #[t, t] }) (e : TypeId) (i : TypeInfo) (bytes : Nat) (k : IntKind) (ht : P.underlying t = some (.slice e)) (hi : P.info? e = some i) (hz : i.zero = some (.int k 0)) (hsize : i.size = 1) (hby : i.bytes = bytes)
    (base : Nat) (A : Option Addr) (n c : Nat) (xs : List Int) (h : Own k e w base A n c xs) (hsv : a.eval s = .slice A n c) (A2 : Option Addr) (m : Nat) (c2 : Nat) (ys : List Int) (hs : Ints k w A2 m ys) (hxv : a.eval x = .slice A2 m c2)
    (hbytes : (n + m) * bytes ≤ 140737488355328) (hb8 : 1 ≤ bytes) (hbase : base ≤ w.heap.size)
    (hK : ∀ A' c' w', Own k e w' base A' (n + m) c' (xs ++ ys) → w.grownBy w' (Value.ownBlock (.slice A n c)) → (Value.ownBlock (.slice A' (n + m) c') = Value.ownBlock (.slice A n c) ∨ Value.ownBlock (.slice A' (n + m) c') = some w.heap.size) → K (a.put o.dst (.slice A' (n + m) c')) w') :
    if Region.wanted o (yielded ops a.tmps) = true then Oper.wp P o a w K Q else E := by
  have hw : Region.wanted o (yielded ops a.tmps) = true := by simp [Region.wanted, hgd]
  rw [if_pos hw]
  exact wp_app w s x t ho e i bytes k ht hi hz hsize hby base A n c xs h hsv A2 m c2 ys hs hxv hbytes hb8 hbase hK
end
end Go.Proofs.YtapiehddcdnadaaGreatDoor
namespace Go.Proofs.YtapiehddcdnadaaGreatDoor
open Go.RowKit Go.ChangeShapes Go.WideShapes Go.ChangeAt Go.Deep
set_option linter.unusedVariables false
set_option linter.unusedSimpArgs false

section
variable {H : Type} {enc : TypeId × Value → H} {P : Program} {W : World} {base : Nat} {held : Bool}
theorem fields_open {t e : TypeId} {fs : Array Field} {d : DataW H} {ps : List MemPlace} (hu : P.underlying t = some (.slice e)) (he : P.underlying e = some (.struct fs)) (hone : oneCellFields P fs = true) (hC : P.cellsOf e = fs.size) (h0 : 0 < fs.size)
    {a0 : Option Addr} {n c : Nat} (h : DataW.Trod enc P W base (fun _ => true) held t (.slice a0 n c) d ps) :
    n ≤ c ∧ c ≤ maxLen ∧ (0 < n → ∃ b off, a0 = some ⟨b, off, none⟩ ∧ b < W.heap.size ∧
      ∀ i, i < n → ∀ j f, fs[j]? = some f → ∃ u k z, W.cell? ⟨b, off + (i * fs.size + j), none⟩ = some u ∧ DataW.trod enc P W base (fun _ => true) held k f.type [u] = some z) := by
  obtain ⟨fuel, hf⟩ := h
  rcases open_slice hu hf with ⟨hcs, _⟩ | ⟨a, len, cap, m, k, D, Pl, hcs, _, hl, hm, hmm, _, hi⟩
  · simp [Value.cells] at hcs
    obtain ⟨rfl, rfl, rfl⟩ := hcs
    exact ⟨Nat.le_refl _, Nat.zero_le _, fun h => absurd h (by omega)⟩
  · simp [Value.cells] at hcs
    obtain ⟨rfl, rfl, rfl⟩ := hcs
    refine ⟨hl, hm, fun hn => ?_⟩
    -- one element's fields, at the slice's own address
    have hel : ∀ i, i < n → ∀ j f, fs[j]? = some f → ∃ u k z, W.cell? (a.add (i * fs.size + j)) = some u ∧ DataW.trod enc P W base (fun _ => true) held k f.type [u] = some z := by
      intro i hin j f hj
      obtain ⟨cs, hc, ht⟩ := hi i (by rw [hmm]; split <;> omega)
      rw [hC] at hc
      obtain ⟨ys, fuel', _, _, _, _, hg⟩ := DataW.trod_struct he ht
      obtain ⟨_, hlen, hat⟩ := World.cells?_some hc
      obtain ⟨ho, hk⟩ := hone_of hone j f hj
      have hjs : j < fs.size := (Array.getElem?_eq_some_iff.1 hj).1
      have hjc : j < cs.length := by omega
      have h1 := hg j f hj
      have e1 : (cs.drop j).take 1 = [cs[j]] := by rw [List.drop_eq_getElem_cons hjc]; rfl
      rw [ho, hk, e1] at h1
      have h2 := hat j hjs
      rw [add_add, List.getElem?_eq_getElem hjc] at h2
      cases hy : ys[j]? with
      | none => rw [hy] at h1; exact absurd (List.getElem?_eq_none_iff.1 hy) (by simp at *; omega)
      | some z => rw [hy] at h1; exact ⟨cs[j], fuel', z, h2, h1⟩
    obtain ⟨b, off, spot⟩ := a
    obtain ⟨f0, hf0⟩ : ∃ f, fs[0]? = some f := ⟨fs[0], Array.getElem?_eq_getElem h0⟩
    obtain ⟨u0, _, _, hu0, _⟩ := hel 0 hn 0 f0 hf0
    have hspot : spot = none := by simpa [Addr.add] using World.cell?_spot hu0
    subst hspot
    refine ⟨b, off, rfl, ?_, fun i hin j f hj => ?_⟩
    · have := cell_lt hu0
      simpa [Addr.add] using this
    · obtain ⟨u, y, q, h1, h2⟩ := hel i hin j f hj
      rw [Go.WideShapes.add_plain] at h1
      exact ⟨u, y, q, h1, h2⟩
end
end Go.Proofs.YtapiehddcdnadaaGreatDoor

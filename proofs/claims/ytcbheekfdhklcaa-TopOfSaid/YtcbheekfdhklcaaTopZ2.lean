/- refs: items as the document's. -/
import Derived.Test.YtcbheekfdhklcaaTopZ
import Derived.Deep.RegionLaw
namespace Go.Proofs.Ytcbheekfdhklcaa
open Go.RowKit
set_option linter.unusedVariables false
set_option linter.unusedSimpArgs false

theorem take_snocI (l : List It) (j : Nat) (h : j < l.length) : l.take (j + 1) = l.take j ++ [l.getD j default] := by
  rw [List.take_succ_eq_append_getElem h, it_get l j h]

/-- append as one step of a region that draws. -/
theorem step_appI {P : Program} {w : World} {ops : Array Oper} {o : Oper} {a : Act} {K : Act → World → Prop} {Q : Exit → Act → World → Prop} {E : Prop} (hgd : o.guard = none) (s x : Operand) (t : TypeId)
    (ho : o.op = .call { callee := .builtin .append, args := #[s, x], argTypes := #[t, t] })
    (base : Nat) (e : TypeId) (i : TypeInfo) (z : Value) (size bytes : Nat) (ht : P.underlying t = some (.slice e)) (hi : P.info? e = some i) (hz : i.zero = some z)
    (hsize : i.size = size) (hby : i.bytes = bytes) (hzs : z.cells.size = size) (hsz : 0 < size)
    (v : Value) (n : Nat) (xs : List Value) (hs : a.eval s = v) (hown : w.ownsRow base e size v n xs)
    (ad : Addr) (m c : Nat) (news : List Value) (hx : a.eval x = .slice (some ad) m c) (hl : news.length = m * size) (hnews : ∀ j u, news[j]? = some u → w.cell? (ad.add j) = some u) (h1 : ∀ u ∈ news, u.oneCell' = true)
    (h63 : n + m ≤ maxLen) (hbytes : (n + m) * bytes ≤ 140737488355328) (hbase : base ≤ w.heap.size)
    (h : ∀ v' w', w'.ownsRow base e size v' (n + m) (xs ++ news) → w.grownBy w' v.ownBlock → K (a.put o.dst v') w') :
    if Region.wanted o (yielded ops a.tmps) = true then Oper.wp P o a w K Q else E := by
  have hw : Region.wanted o (yielded ops a.tmps) = true := by simp [Region.wanted, hgd]
  rw [if_pos hw]
  obtain ⟨v', w', hr, h2, h3, h4, h5⟩ := run_append_own_at (P := P) w base t o.type e i z size bytes ht hi hz hsize hby hzs hsz v n xs hown ad m c news hl hnews h1 h63 hbytes hbase
  unfold Oper.wp execOp
  simp only [ho, resolve, invoke, builtin, Sem.run_bind, Sem.run_pure, Result.andThen_ok, List.map_toArray, List.map_cons, List.map_nil, hs, hx, hr]
  exact h v' w' h2 h3

set_option maxRecDepth 100000 in
set_option maxHeartbeats 2000000 in
theorem refs_call (A : Option Addr) (n c : Nat) (l : List It) (w : World) (R : ItRow w A n l) (hnc : n ≤ c) (hn : n ≤ 4398046511103) :
    Calls Try.prog 22 #[.slice A n c] w fun e w' => (∃ A' c', e = .returned (.slice A' n c') ∧ RIts w' w.heap.size A' n c' l) ∧ Below w.heap.size w w' := by
  have hln := R.len
  obtain ⟨i0, hi0, hz0, hz1, hz2⟩ := info_parts info_ritem
  go_enter Try.func22, Try.ntmps22
  go_wp2_with fail
  go_loopw [3, 4] (fun out i wr => ∃ (j : Nat) (A' : Option Addr) (c' : Nat), j ≤ n ∧ i = .int .i64 j ∧ out = .slice A' j c' ∧ RIts wr w.heap.size A' j c' (l.take j) ∧ Below w.heap.size w wr) (fun _ i _ => n - (intOf i).toNat)
  case atStart => exact ⟨0, none, 0, Nat.zero_le _, rfl, rfl, RIts.nil, Below.refl _ _⟩
  case round =>
    obtain ⟨j, A', c', hj, rfl, rfl, hI, hB⟩ := hrel
    by_cases hjn : j < n
    · obtain ⟨b, off, rfl, hbl, hcell⟩ := R.at_ (by omega)
      obtain ⟨x0, x1, x2⟩ := hcell j hjn
      have e0 := (hB.cell (p := ⟨b, off + j * 3, none⟩) hbl).trans x0
      have e1 := (hB.cell (p := ⟨b, off + j * 3 + 1, none⟩) hbl).trans x1
      have e2 := (hB.cell (p := ⟨b, off + j * 3 + 2, none⟩) hbl).trans x2
      have hts := take_snocI l j (by omega)
      have HTS := Lib.hid hts
      clear hcell x0 x1 x2 hts
      generalize l.getD j default = X at *
      have hj1 : (j : Int) < n := by omega
      have hbs := hB.size
      go_upto_region 5 with fail
      have hbr : b < wr.heap.size := Nat.lt_of_lt_of_le hbl hB.size
      have HB := Lib.hid hB
      have HI := Lib.hid hI
      clear hB hI
      go_region_law (refine step_appI rfl (.tmp 11) (.tmp 28) 48 rfl w.heap.size 52 i0 _ 3 32 Try.underlying48 hi0 hz0 hz1 hz2 rfl (by omega) (.slice A' j c') j (flat (l.take j)) (by simp [Act.eval, Act.put]) ((HI.out.step (bdrew (balloc (Below.refl _ _) _))).own) ⟨wr.heap.size, 0, none⟩ 1 1 (encI X) (by simp [Act.eval, Act.put]) rfl (news_item (Blk.new wr _ _).drew) (by intro u hu; simp only [encI, List.mem_cons, List.not_mem_nil, or_false] at hu; rcases hu with rfl | rfl | rfl <;> rfl) (by simp only [maxLen]; omega) (by omega) (by simp; omega) ?_; intro v' w5 hown5 hG5; obtain ⟨A5, c5, rfl⟩ := own_form hown5)
      all_goals
        go_wp2_with fail
        refine ⟨⟨j + 1, A5, c5, by omega, by go_num, rfl, ⟨by rw [HTS.out, flat_append]; simpa [flat] using hown5⟩, ?_⟩, by simp [intOf]; omega⟩
        exact bgrown (bdrew (balloc HB.out _)) hG5 (fun k hk => (HI.out.own.lt k hk).1)
    · obtain rfl : j = n := by omega
      have htk : l.take j = l := List.take_of_length_le (by omega)
      rw [htk] at hI
      go_wp2_with fail
      go_ret
      exact ⟨⟨A', c', rfl, hI⟩, hB⟩
end Go.Proofs.Ytcbheekfdhklcaa

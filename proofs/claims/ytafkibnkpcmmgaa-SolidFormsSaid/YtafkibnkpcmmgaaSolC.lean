/- slices.Grow of nothing and slices.Concat of two slices of boxes. -/
import Derived.Test.YtafkibnkpcmmgaaSolB
import Derived.Test.YtafkibnkpcmmgaaClone
import Derived.Lib.AppendZeros
import Derived.Laws.OwnMore
namespace Go.Proofs.Ytafkibnkpcmmgaa
open Go.RowKit

theorem run_append_none {P : Program} (w : World) (base : Nat) (t ty e : TypeId) (i : TypeInfo) (size c : Nat) (ht : P.underlying t = some (.slice e)) (hi : P.info? e = some i)
    (v : Value) (n : Nat) (xs : List Value) (hown : w.ownsRow base e size v n xs) :
    (Builtin.append_ #[t, t] ty #[v, .slice none 0 c]).run P w = .ok v w := by
  rcases hown.2 with ⟨rfl, rfl⟩ | ⟨g, cap, cur, rfl, _, _, hnc, _⟩
  · simp [Builtin.append_, run_underlying ht, sizeOf, typeInfo, hi, Builtin.lenOf, Builtin.firstCells]
  · simp [Builtin.append_, run_underlying ht, sizeOf, typeInfo, hi, Builtin.lenOf, Builtin.firstCells, hnc, storeCells]

/-- append(s, x...) of whatever slice. -/
theorem app_any {P : Program} {ops : Array Oper} {rest : List Oper} {o : Oper} {a : Act} {Q : Exit → Act → World → Prop} (hgd : o.guard = none) (s x : Operand) (t : TypeId)
    (ho : o.op = .call { callee := .builtin .append, args := #[s, x], argTypes := #[t, t] })
    (e : TypeId) (z : Value) (size bytes : Nat) (ht : P.underlying t = some (.slice e)) (hi : (P.info? e).map (fun i => (i.zero, i.size, i.bytes)) = some (some z, size, bytes)) (hzs : z.cells.size = size) (hsz : 0 < size)
    (B : World) (v : Value) (n : Nat) (xs : List Value) (w : World) (hs : a.eval s = v) (hown : w.ownsRow B.heap.size e size v n xs)
    (ad : Option Addr) (m c : Nat) (news : List Value) (hx : a.eval x = .slice ad m c) (hl : news.length = m * size) (hnil : ad = none → m = 0) (hnews : ∀ a', ad = some a' → ∀ j u, news[j]? = some u → w.cell? (a'.add j) = some u) (h1 : ∀ u ∈ news, u.oneCell' = true)
    (hroom : (n + m) * bytes ≤ 140737488355328) (hby : 0 < bytes) (hB : Below B.heap.size B w)
    (h : ∀ v' y, (ext B y).ownsRow B.heap.size e size v' (n + m) (xs ++ news) → w.grownBy (ext B y) v.ownBlock → wpList P ops Q rest (a.put o.dst v') (ext B y)) : wpList P ops Q (o :: rest) a w := by
  cases ad with
  | some ad => exact app_own_at hgd s x t ho e z size bytes ht hi hzs hsz B v n xs w hs hown ad m c news hx hl (hnews ad rfl) h1 hroom hby hB h
  | none =>
    obtain rfl := hnil rfl
    obtain ⟨i0, hi, hz0, hz1, hz2⟩ := info_parts hi
    have hn0 : news = [] := List.eq_nil_of_length_eq_zero (by omega)
    subst hn0
    refine Lib.wpList_append_run w hgd s x t t ho v _ hs hx v w (run_append_none w B.heap.size t o.type e i0 size c ht hi v n xs hown) ?_
    obtain ⟨y, hy⟩ := ext_of hB
    rw [hy]
    exact h v y (by rw [← hy]; simpa using hown) (by rw [← hy]; exact ⟨rfl, rfl, rfl, Nat.le_refl _, fun _ _ _ => rfl⟩)

theorem Boxes.slice {w : World} {v : Value} {l : List Bx} (h : Boxes w v l) : ∃ a cap, v = .slice a l.length cap ∧ l.length ≤ cap ∧ cap ≤ 9223372036854775807 ∧ (a = none → l.length = 0) ∧ ∀ a', a = some a' → ∀ j u, (boxCells l)[j]? = some u → w.cell? (a'.add j) = some u := by
  obtain ⟨a, cap, rfl, h1, h2, h3⟩ := h.shape
  refine ⟨a, cap, rfl, h1, h2, fun ha => ?_, fun a' ha => ?_⟩
  · subst ha
    rcases Nat.eq_zero_or_pos l.length with e | e
    · exact e
    · obtain ⟨_, _, e', _⟩ := h3 0 e; cases e'
  · subst ha; exact h.cells

set_option maxRecDepth 100000 in
set_option maxHeartbeats 400000 in
theorem growNil_c (n : Nat) (hn : n ≤ 100000) (w : World) :
    Calls Try.prog 53 #[.slice none 0 0, .int .i64 n] w (RetOwn w 28 6 0 []) := by
  rcases Nat.eq_zero_or_pos n with rfl | h0
  · go_enter Try.func53, Try.ntmps53
    go_wp2
    go_ret
    exact ⟨_, rfl, World.ownsRow_nil _ _ _ _, ext_of (by (repeat (first | exact grow_refl _ | refine grow_ext _ ?_ | refine grow_alloc _ ?_ | refine grow_drew ?_)))⟩
  · obtain ⟨i0, hi0, hz0, hz1, hz2⟩ := info_parts info_box'
    have hm : grownCap w n 0 28 ≤ maxLen := grownCap_le_maxLen w n 0 _ (by unfold maxLen; omega)
    have hge := grownCap_ge w n 0 28
    have hr := Lib.hid (fun ty => Lib.run_append_nil_zeros (P := Try.prog) w 22 3 ty 28 i0 (.agg #[.int .i64 0, .int .i64 0, .int .i64 0, .int .i64 0, .int .i64 0, .int .i64 0]) .i64 .i64 Try.underlying22 Try.underlying3 hi0 hz0 n h0 (by omega) (by omega) (by rw [hz2]; omega))
    have hp : (0 : Int) < (n : Int) := by omega
    have hn2 : (n : Int) ≤ 100000 := by omega
    generalize grownCap w n 0 28 = C at *
    have HM := Lib.hid hm
    have HG := Lib.hid hge
    have hc2 : C ≤ 9223372036854775807 := hm
    clear hm
    go_enter Try.func53, Try.ntmps53
    go_wp2_with (at_builtin; refine Lib.wpList_append_run w rfl _ _ 22 3 rfl (.slice none 0 0) (.int .i64 n) rfl rfl _ _ (hr.out _) ?_)
    go_ret
    refine ⟨_, rfl, ?_, ext_of ?_⟩
    · have := HG.out
      refine own_drew (World.ownsRow_made w _ C (Nat.le_refl _) HM.out ?_)
      rw [Array.size_append, size_zeroCells, size_zeroCells]
      show n * 6 + (C - n) * 6 = C * 6
      omega
    · (repeat (first | exact grow_refl _ | refine grow_ext _ ?_ | refine grow_alloc _ ?_ | refine grow_drew ?_))

set_option maxRecDepth 100000 in
set_option maxHeartbeats 2000000 in
theorem concat_c (l m : List Bx) (u t : Value) (g : Nat) (w : World) (hl : Boxes w u l) (hm : Boxes w t m) (hll : l.length ≤ 1000) (hml : m.length ≤ 1000) (c0 : w.cell? ⟨g, 0, none⟩ = some u) (c1 : w.cell? ⟨g, 1, none⟩ = some t) :
    Calls Try.prog 20 #[.slice (some ⟨g, 0, none⟩) 2 2] w (RetOwn w 28 6 (l ++ m).length (boxCells (l ++ m))) := by
  obtain ⟨a, cap, rfl, hcap, hcap2, hnil, hcell⟩ := hl.slice
  obtain ⟨a', cap', rfl, hcap', hcap2', hnil', hcell'⟩ := hm.slice
  have HC := Lib.hid hcell
  have HC' := Lib.hid hcell'
  have HN := Lib.hid hnil
  have HN' := Lib.hid hnil'
  clear hl hm hcell hcell' hnil hnil'
  have e1 : ((l.length : Int) + (m.length : Int)) = ((l.length + m.length : Nat) : Int) := by omega
  have HE := Lib.hid e1
  have hlm : l.length + m.length ≤ 100000 := by omega
  have n1 : ¬ ((l.length : Int) + (m.length : Int) < 0) := by omega
  have n0 : ¬ ((l.length : Int) < 0) := by omega
  clear e1
  go_enter Try.func20, Try.ntmps20
  go_wp2
  refine wp_loop_rounds 3 ?_
  rw [rounds_succ]
  go_wp2
  rw [rounds_succ]
  go_wp2
  rw [rounds_succ]
  go_wp2_with fail
  rw [HE.out]
  go_at_call 53; refine Calls.mono (growNil_c (l.length + m.length) hlm _) ?_; rintro e w' ⟨v1, rfl, hown1, x1, rfl⟩
  have O1 := Lib.hid hown1
  clear hown1
  go_wp2
  refine wp_loop_rounds 3 ?_
  rw [rounds_succ]
  go_wp2_with (at_builtin; refine app_any rfl _ _ 22 rfl 28 (.agg #[.int .i64 0, .int .i64 0, .int .i64 0, .int .i64 0, .int .i64 0, .int .i64 0]) 6 48 Try.underlying22 info_box' rfl (by decide) w v1 0 [] _ rfl O1.out a l.length cap (boxCells l) rfl (boxCells_length l) HN.out ?_ (boxCells_one l) ?_ (by decide) ?_ ?_; (exact fun a2 ha j q hj => cell_ext_some (HC.out a2 ha j q hj) _); omega; (repeat (first | exact grow_refl _ | refine grow_ext _ ?_ | refine grow_alloc _ ?_ | refine grow_drew ?_)); intro v2 x2 hown2 hgrow2)
  have O2 := Lib.hid hown2
  clear hown2 hgrow2
  rw [rounds_succ]
  go_wp2_with (at_builtin; refine app_any rfl _ _ 22 rfl 28 (.agg #[.int .i64 0, .int .i64 0, .int .i64 0, .int .i64 0, .int .i64 0, .int .i64 0]) 6 48 Try.underlying22 info_box' rfl (by decide) w v2 (0 + l.length) ([] ++ boxCells l) _ rfl O2.out a' m.length cap' (boxCells m) rfl (boxCells_length m) HN'.out ?_ (boxCells_one m) ?_ (by decide) ?_ ?_; (exact fun a2 ha j q hj => cell_ext_some (HC'.out a2 ha j q hj) _); omega; (repeat (first | exact grow_refl _ | refine grow_ext _ ?_ | refine grow_alloc _ ?_ | refine grow_drew ?_)); intro v3 x3 hown3 hgrow3)
  have O3 := Lib.hid hown3
  clear hown3 hgrow3
  rw [rounds_succ]
  go_wp2
  go_ret
  refine ⟨_, rfl, ?_, ⟨_, rfl⟩⟩
  have := O3.out
  rw [Nat.zero_add, List.nil_append, ← boxCells_append, ← List.length_append] at this
  exact this

end Go.Proofs.Ytafkibnkpcmmgaa

/- The parts of a solid as a list: solid.Cells. -/
import Derived.Test.YtafkibnkpcmmgaaSolF
namespace Go.Proofs.Ytafkibnkpcmmgaa
open Go.RowKit

theorem app_own_w {P : Program} {ops : Array Oper} {rest : List Oper} {o : Oper} {a : Act} {Q : Exit → Act → World → Prop} (hgd : o.guard = none) (s x : Operand) (t : TypeId)
    (ho : o.op = .call { callee := .builtin .append, args := #[s, x], argTypes := #[t, t] })
    (e : TypeId) (z : Value) (size bytes : Nat) (ht : P.underlying t = some (.slice e)) (hi : (P.info? e).map (fun i => (i.zero, i.size, i.bytes)) = some (some z, size, bytes)) (hzs : z.cells.size = size) (hsz : 0 < size)
    (base : Nat) (v : Value) (n : Nat) (xs : List Value) (w : World) (hs : a.eval s = v) (hown : w.ownsRow base e size v n xs)
    (g m c : Nat) (news : List Value) (hx : a.eval x = .slice (some ⟨g, 0, none⟩) m c) (hl : news.length = m * size) (hnews : ∀ j u, news[j]? = some u → w.cell? ((⟨g, 0, none⟩ : Addr).add j) = some u) (h1 : ∀ u ∈ news, u.oneCell' = true)
    (hroom : (n + m) * bytes ≤ 140737488355328) (hby : 0 < bytes) (hB : base ≤ w.heap.size)
    (h : ∀ v' w', w'.ownsRow base e size v' (n + m) (xs ++ news) → w.grownBy w' v.ownBlock → wpList P ops Q rest (a.put o.dst v') w') : wpList P ops Q (o :: rest) a w := by
  obtain ⟨i0, hi, hz0, hz1, hz2⟩ := info_parts hi
  have h63 : n + m ≤ maxLen := by
    unfold maxLen
    have := Nat.le_mul_of_pos_right (n + m) hby
    omega
  refine wpList_append_own w hgd s x t ho base e i0 z size bytes ht hi hz0 hz1 hz2 hzs hsz v n xs hs hown ⟨g, 0, none⟩ m c news hx hl hnews h1 h63 hroom hB ?_
  intro v' w' hown' hgrow _
  exact h v' w' hown' hgrow

theorem own_cells {W : World} {M : Nat} {e : TypeId} {v : Value} {n : Nat} {l : List Bx} {b : Bx} (h : W.ownsRow M e 6 v (n + 1) (boxCells l ++ boxCells [b])) (hn : n = l.length) : W.ownsRow M e 6 v (l ++ [b]).length (boxCells (l ++ [b])) := by
  subst hn
  rw [boxCells_append, List.length_append]; exact h

theorem grow_cell2 {w w1 : World} {o1 o2 : Obj} {g : Nat} {v : Value} {row : Option Nat} (hc : w.cell? ⟨g, 0, none⟩ = some v) (hf : w.frozen? ⟨g, 0, none⟩ = false) (hg : ((w.alloc o1).alloc o2).grownBy w1 row) (hne : some g ≠ row) :
    w1.cell? ⟨g, 0, none⟩ = some v ∧ w1.frozen? ⟨g, 0, none⟩ = false := by
  have h1 : w.heap.size ≤ ((w.alloc o1).alloc o2).heap.size := by simp only [World.size_alloc]; omega
  have hlt : g < w.heap.size := World.block_lt_of_cell? w _ hc
  refine ⟨hg.cell (a := ⟨g, 0, none⟩) (cell_alloc_keep (cell_alloc_keep hc _) _) hne, (World.frozen?_of_block (a := ⟨g, 0, none⟩) (hg.block g (by omega) hne)).trans ?_⟩
  rw [World.frozen?_alloc_old _ _ _ (by simp only [World.size_alloc]; show g ≠ _; omega), World.frozen?_alloc_old _ _ _ (by show g ≠ _; omega)]; exact hf

theorem keeps_step {w w1 : World} {o1 o2 : Obj} {n₀ g M : Nat} {row : Option Nat} (hg : ((w.alloc o1).alloc o2).grownBy w1 row) (hrow : ∀ k, row = some k → M ≤ k) (hng : n₀ ≤ g) (hgM : g < M) (hM : M ≤ w.heap.size) (u : Value) : Keeps n₀ g M w (w1.setCell ⟨g, 0, none⟩ u) := by
  have hs : (w1.setCell ⟨g, 0, none⟩ u).heap.size = w1.heap.size := by simp [World.setCell]
  have h1 := hg.size
  simp only [World.size_alloc] at h1
  refine ⟨?_, by rw [hs]; omega, fun k hk hkg ⟨cs, t, fr, hc⟩ => ?_⟩
  · have b1 : Below n₀ w ((w.alloc o1).alloc o2) := ((Below.refl n₀ w).alloc (by omega) _).alloc (by simp only [World.size_alloc]; omega) _
    exact (b1.grown hg (by simp only [World.size_alloc]; omega) (fun k e => by have := hrow k e; omega)).setCell (p := ⟨g, 0, none⟩) hng u
  · have hlt : k < w.heap.size := (Array.getElem?_eq_some_iff.1 hc).1
    have hx : some k ≠ row := fun e => by have := hrow k e.symm; omega
    rw [heap_setCell_other w1 ⟨g, 0, none⟩ k u hkg, hg.block k (by simp only [World.size_alloc]; omega) hx, Below.heap_alloc _ _ _ (by simp only [World.size_alloc]; omega), Below.heap_alloc _ _ _ hlt]
theorem own_store {w1 : World} {e : TypeId} {s g M n : Nat} {v : Value} {xs : List Value} (h : w1.ownsRow M e s v n xs) (hg : g < M) (u : Value) : (w1.setCell ⟨g, 0, none⟩ u).ownsRow M e s v n xs :=
  h.kept (grownBy_setCell' w1 g u) (.inr fun e => by have := (h.lt g e).1; omega)

set_option maxRecDepth 100000 in
set_option maxHeartbeats 2000000 in
theorem cells1_c (b : Bx) (pre : List Bx) (v : Value) (n₀ g M : Nat) (w : World) (hc : w.cell? ⟨g, 0, none⟩ = some v) (hf : w.frozen? ⟨g, 0, none⟩ = false) (hown : w.ownsRow M 28 6 v pre.length (boxCells pre)) (hM : M ≤ w.heap.size) (hng : n₀ ≤ g) (hg : g < M) (hlen : pre.length ≤ 1000) :
    Calls Try.prog 68 #[(.agg #[.int .i64 b.lx, .int .i64 b.ly, .int .i64 b.lz, .int .i64 b.hx, .int .i64 b.hy, .int .i64 b.hz]), .pointer (some ⟨g, 0, none⟩)] w (fun e W' => e = .returned (.bool (decide (pre.length + 1 ≤ 1000))) ∧ Keeps n₀ g M w W' ∧
      ∃ v', W'.cell? ⟨g, 0, none⟩ = some v' ∧ W'.frozen? ⟨g, 0, none⟩ = false ∧ W'.ownsRow M 28 6 v' (pre ++ [b]).length (boxCells (pre ++ [b])) ∧ ∃ a c, v' = .slice a (pre.length + 1) c) := by
  obtain ⟨av, cv, rfl, hv1, hv2, _⟩ := own_shape hown
  have hv3 : cv ≤ 9223372036854775807 := hv2
  clear hv2
  have HO := Lib.hid hown
  have hne : some g ≠ (Value.slice av pre.length cv).ownBlock := fun e => by have := (hown.lt g e.symm).1; omega
  have HNE := Lib.hid hne
  have HMW := Lib.hid hM
  clear hown hne
  go_enter Try.func68, Try.ntmps68
  go_wp2_with (at_builtin; refine app_own_w rfl _ _ 22 rfl 28 (.agg #[.int .i64 0, .int .i64 0, .int .i64 0, .int .i64 0, .int .i64 0, .int .i64 0]) 6 48 Try.underlying22 info_box' rfl (by decide) M (.slice av pre.length cv) pre.length (boxCells pre) _ rfl ((HO.out.alloc _).alloc _) _ 1 1 (boxCells [b]) rfl rfl (cells_new ?_ _ _ _ rfl) (boxCells_one _) (by omega) (by decide) ?_ ?_; (first | rfl | simp [size_ext]); (have := HMW.out; simp only [World.size_alloc]; omega); intro v' w1 hown' hgrow; have HO2 := Lib.hid hown'; obtain ⟨a', c', rfl, _, hc2, _⟩ := own_shape hown'; have hc3 : c' ≤ 9223372036854775807 := hc2; obtain ⟨k1, k2⟩ := grow_cell2 hc hf hgrow HNE.out; have HG := Lib.hid hgrow; clear hown' hgrow hc2)
  have HC := Lib.hid hc
  go_ret
  refine ⟨congrArg (fun b => Ending.returned (.bool b)) ?_, keeps_step HG.out (fun k e => (HO.out.lt k e).1) hng hg HMW.out _, .slice a' (pre.length + 1) c', ?_, ?_, own_cells (own_store HO2.out hg _) rfl, a', c', rfl⟩
  · show decide (((pre.length : Int) + 1) ≤ 1000) = _
    rw [Bool.eq_iff_iff]; simp; omega
  · simp [go_sem, k1]
  · simp [go_sem, k2]

theorem enters_cells1 : Enters 68 := enters_of Try.func68 (by decide) (by simp [Try.f68])

def CellsJ (w0 : World) (g M : Nat) (pre : List Bx) (W : World) : Prop :=
  M ≤ W.heap.size ∧ g < M ∧ Below w0.heap.size w0 W ∧ pre.length ≤ 1000 ∧ ∃ a c, W.cell? ⟨g, 0, none⟩ = some (.slice a pre.length c) ∧ W.frozen? ⟨g, 0, none⟩ = false ∧ W.ownsRow M 28 6 (.slice a pre.length c) pre.length (boxCells pre)
def CellsX (w0 : World) (g N : Nat) (W : World) : Prop := Below w0.heap.size w0 W ∧ 1000 < N ∧ ∃ a n c, W.cell? ⟨g, 0, none⟩ = some (.slice a n c) ∧ 1000 < n ∧ n ≤ 1001
theorem frozen_below {W W' : World} {a : Addr} {v : Value} (hc : W.cell? a = some v) (hb : Below W.heap.size W W') : W'.frozen? a = W.frozen? a := by
  obtain ⟨y, rfl⟩ := ext_of hb
  exact frozen_ext W y a (by rw [hc]; rfl)
theorem cell_below {W W' : World} {a : Addr} {v : Value} (hc : W.cell? a = some v) (hb : Below W.heap.size W W') : W'.cell? a = some v := by
  obtain ⟨y, rfl⟩ := ext_of hb
  exact cell_ext_some hc y
theorem CellsJ.grown {w0 : World} {g M : Nat} {pre : List Bx} {W W' : World} (h : CellsJ w0 g M pre W) (hb : Below W.heap.size W W') : CellsJ w0 g M pre W' := by
  obtain ⟨h1, h2, h3, h4, a, c, h5, h6, h7⟩ := h
  exact ⟨Nat.le_trans h1 hb.size, h2, h3.trans (hb.mono h3.size), h4, a, c, cell_below h5 hb, (frozen_below h5 hb).trans h6, own_below2 h7 hb⟩
theorem CellsX.grown {w0 : World} {g N : Nat} {W W' : World} (h : CellsX w0 g N W) (hb : Below W.heap.size W W') : CellsX w0 g N W' := by
  obtain ⟨h1, h2, a, n, c, h3, h4, h5⟩ := h
  exact ⟨h1.trans (hb.mono h1.size), h2, a, n, c, cell_below h3 hb, h4, h5⟩

def cellsR (l m : List Bx) : List Bx × Int := if solidB l m = true then (if (cellsL l m).length ≤ 1000 then (cellsL l m, 0) else ([], 4)) else ([], 1)
/-- A slice of boxes of the call's own, and an error number. -/
def RetBoxes (w : World) (l : List Bx) (err : Int) (e : Ending) (w' : World) : Prop :=
  ∃ v, e = .returned (.tuple #[v, .int .i64 err]) ∧ w'.ownsRow w.heap.size 28 6 v l.length (boxCells l) ∧ ∃ x, w' = ext w x

set_option maxRecDepth 100000 in
set_option maxHeartbeats 4000000 in
theorem solidCells_c (l m : List Bx) (u t : Value) (w : World) (hl : Boxes w u l) (hm : Boxes w t m) :
    Calls Try.prog 36 #[.agg #[u, t]] w (RetBoxes w (cellsR l m).1 (cellsR l m).2) := by
  have HL := Lib.hid hl
  have HM := Lib.hid hm
  clear hl hm
  cases hv : solidB l m
  · have HR := Lib.hid (show cellsR l m = ([], 1) by unfold cellsR; rw [hv]; rfl)
    have HV := Lib.hid hv
    clear hv
    go_enter Try.func36, Try.ntmps36
    go_wp2_with fail
    go_at_call 30; refine (solidValid_v l m _ _ _ HV.out _ (HL.out.below (by (repeat (first | exact grow_refl _ | refine grow_ext _ ?_ | refine grow_alloc _ ?_ | refine grow_drew ?_)))) (HM.out.below (by (repeat (first | exact grow_refl _ | refine grow_ext _ ?_ | refine grow_alloc _ ?_ | refine grow_drew ?_))))).mono ?_; rintro e w' ⟨rfl, x1, rfl⟩
    go_wp2
    go_ret2
    rw [HR.out]
    exact ⟨_, rfl, World.ownsRow_nil _ _ _ _, ext_of (by (repeat (first | exact grow_refl _ | refine grow_ext _ ?_ | refine grow_alloc _ ?_ | refine grow_drew ?_)))⟩
  · have HR := Lib.hid (show cellsR l m = (if (cellsL l m).length ≤ 1000 then (cellsL l m, 0) else ([], 4)) by unfold cellsR; rw [hv]; rfl)
    have HV := Lib.hid hv
    clear hv
    go_enter Try.func36, Try.ntmps36
    go_wp2_with fail
    go_at_call 30; refine (solidValid_v l m _ _ _ HV.out _ (HL.out.below (by (repeat (first | exact grow_refl _ | refine grow_ext _ ?_ | refine grow_alloc _ ?_ | refine grow_drew ?_)))) (HM.out.below (by (repeat (first | exact grow_refl _ | refine grow_ext _ ?_ | refine grow_alloc _ ?_ | refine grow_drew ?_))))).mono ?_; rintro e w' ⟨rfl, x1, rfl⟩
    go_wp2_with fail
    have hbw : Below w.heap.size w ((ext (w.alloc (.cells #[u, t] 24)) x1).alloc (.cells #[.slice none 0 0] 22)) := by (repeat (first | exact grow_refl _ | refine grow_ext _ ?_ | refine grow_alloc _ ?_ | refine grow_drew ?_))
    go_at_call 51
    refine Calls.mono (each_c l m u t _ _ w.heap.size (w.heap.size + 1 + x1.heap.size) (by simp [size_ext]; omega) (by simp [size_ext]) (fun W' h => HL.out.below (hbw.trans h)) (fun W' h => HM.out.below (hbw.trans h)) HV.out
      (CellsJ w (w.heap.size + 1 + x1.heap.size)) (CellsX w (w.heap.size + 1 + x1.heap.size) (cellsL l m).length) (fun M pre W W' h hb => h.grown hb) (fun W W' h hb => h.grown hb) ?_ ?_) ?_
    · intro M pre x W hpre hB hgW hM hJ
      obtain ⟨h1, h2, h3, h4, a, c, h5, h6, h7⟩ := hJ
      refine .inr ⟨68, #[.pointer (some ⟨w.heap.size + 1 + x1.heap.size, 0, none⟩)], rfl, enters_cells1, ?_⟩
      refine (cells1_c x pre _ w.heap.size (w.heap.size + 1 + x1.heap.size) M W h5 h6 h7 h1 (by omega) h2 h4).mono ?_
      rintro e W' ⟨rfl, hk, v', hc', hf', ho', a', c', rfl⟩
      by_cases hp : pre.length + 1 ≤ 1000
      · exact .inl ⟨by rw [decide_eq_true hp], ⟨Nat.le_trans h1 hk.size, h2, h3.trans hk.below, by simpa using hp, a', c', by simpa using hc', hf', by simpa using ho'⟩, hk⟩
      · have hl := hpre.length_le
        rw [List.length_append, List.length_singleton] at hl
        exact .inr ⟨by rw [decide_eq_false hp], h3.trans hk.below, by omega, a', _, c', hc', by omega, by omega⟩
    · intro W hb
      have hs := hb.size
      simp only [World.size_alloc, size_ext] at hs
      exact ⟨Nat.le_refl _, by omega, hbw.trans (hb.mono (by simp only [World.size_alloc, size_ext]; omega)), by simp, none, 0, cell_below (by simp [go_sem]) hb, (frozen_below (v := .slice none 0 0) (by simp [go_sem]) hb).trans (by simp [go_sem]), World.ownsRow_nil _ _ _ _⟩
    rintro e W' ⟨rfl, (⟨M, h1, h2, h3, h4, a, c, h5, h6, h7⟩ | ⟨h1, h2, a, n, c, h3, h4, h5⟩)⟩
    · have d1 : decide ((1000 : Int) < ((cellsL l m).length : Int)) = false := by simp; omega
      rw [if_pos h4] at HR
      have HO := Lib.hid (own_mono (base' := w.heap.size) h7 (by omega))
      have HB := Lib.hid h3
      clear h3 h4 h6 h7 hbw
      generalize cellsL l m = cs at *
      go_wp2
      go_ret2
      rw [HR.out]
      exact ⟨_, rfl, HO.out, ext_of HB.out⟩
    · have d1 : decide ((1000 : Int) < (n : Int)) = true := by simp; omega
      rw [if_neg (by omega)] at HR
      have HB := Lib.hid h1
      clear h1 h2 hbw
      go_wp2
      go_ret2
      rw [HR.out]
      exact ⟨_, rfl, World.ownsRow_nil _ _ _ _, ext_of HB.out⟩

end Go.Proofs.Ytafkibnkpcmmgaa

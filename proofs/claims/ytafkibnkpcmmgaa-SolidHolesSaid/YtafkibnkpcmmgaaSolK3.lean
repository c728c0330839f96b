/- SolG, SolH, SolI, SolJ in one text. -/
import Derived.Test.YtafkibnkpcmmgaaSolF
import Derived.RangeFuncBox
namespace Go.Proofs.Ytafkibnkpcmmgaa
open Go.RowKit
set_option maxRecDepth 20000

theorem app_own_w {P : Program} {ops : Array Oper} {rest : List Oper} {o : Oper} {a : Act} {Q : Exit → Act → World → Prop} (hgd : o.guard = none) (s x : Operand) (t : TypeId)
    (ho : o.op = .call { callee := .builtin .append, args := #[s, x], argTypes := #[t, t] })
    (e : TypeId) (z : Value) (size bytes : Nat) (ht : P.underlying t = some (.slice e)) (hi : (P.info? e).map (fun i => (i.zero, i.size, i.bytes)) = some (some z, size, bytes)) (hzs : z.cells.size = size) (hsz : 0 < size)
    (base : Nat) (v : Value) (n : Nat) (xs : List Value) (w : World) (hs : a.eval s = v) (hown : w.ownsRow base e size v n xs)
    (g m c : Nat) (news : List Value) (hx : a.eval x = .slice (some ⟨g, 0, none⟩) m c) (hl : news.length = m * size) (hnews : ∀ j u, news[j]? = some u → w.cell? ((⟨g, 0, none⟩ : Addr).add j) = some u) (h1 : ∀ u ∈ news, u.oneCell' = true)
    (hroom : (n + m) * bytes ≤ 140737488355328) (hby : 0 < bytes) (hB : base ≤ w.heap.size)
    (h : ∀ v' w', w'.ownsRow base e size v' (n + m) (xs ++ news) → w.grownBy w' v.ownBlock → wpList P ops Q rest (a.put o.dst v') w') : wpList P ops Q (o :: rest) a w := by
  obtain ⟨i0, hi, hz0, hz1, hz2⟩ := info_parts hi
  have h63 : n + m ≤ maxLen := by
    unfold maxLen
    have := Nat.le_mul_of_pos_right (n + m) hby
    omega
  refine wpList_append_own w hgd s x t ho base e i0 z size bytes ht hi hz0 hz1 hz2 hzs hsz v n xs hs hown ⟨g, 0, none⟩ m c news hx hl hnews h1 h63 hroom hB ?_
  intro v' w' hown' hgrow _
  exact h v' w' hown' hgrow

theorem own_cells {W : World} {M : Nat} {e : TypeId} {v : Value} {n : Nat} {l : List Bx} {b : Bx} (h : W.ownsRow M e 6 v (n + 1) (boxCells l ++ boxCells [b])) (hn : n = l.length) : W.ownsRow M e 6 v (l ++ [b]).length (boxCells (l ++ [b])) := by
  subst hn
  rw [boxCells_append, List.length_append]; exact h

theorem grow_cell2 {w w1 : World} {o1 o2 : Obj} {g : Nat} {v : Value} {row : Option Nat} (hc : w.cell? ⟨g, 0, none⟩ = some v) (hf : w.frozen? ⟨g, 0, none⟩ = false) (hg : ((w.alloc o1).alloc o2).grownBy w1 row) (hne : some g ≠ row) :
    w1.cell? ⟨g, 0, none⟩ = some v ∧ w1.frozen? ⟨g, 0, none⟩ = false := by
  have h1 : w.heap.size ≤ ((w.alloc o1).alloc o2).heap.size := by simp only [World.size_alloc]; omega
  have hlt : g < w.heap.size := World.block_lt_of_cell? w _ hc
  refine ⟨hg.cell (a := ⟨g, 0, none⟩) (cell_alloc_keep (cell_alloc_keep hc _) _) hne, (World.frozen?_of_block (a := ⟨g, 0, none⟩) (hg.block g (by omega) hne)).trans ?_⟩
  rw [World.frozen?_alloc_old _ _ _ (by simp only [World.size_alloc]; show g ≠ _; omega), World.frozen?_alloc_old _ _ _ (by show g ≠ _; omega)]; exact hf

theorem keeps_step {w w1 : World} {o1 o2 : Obj} {n₀ g M : Nat} {row : Option Nat} (hg : ((w.alloc o1).alloc o2).grownBy w1 row) (hrow : ∀ k, row = some k → M ≤ k) (hng : n₀ ≤ g) (hgM : g < M) (hM : M ≤ w.heap.size) (u : Value) : Keeps n₀ g M w (w1.setCell ⟨g, 0, none⟩ u) := by
  have hs : (w1.setCell ⟨g, 0, none⟩ u).heap.size = w1.heap.size := by simp [World.setCell]
  have h1 := hg.size
  simp only [World.size_alloc] at h1
  refine ⟨?_, by rw [hs]; omega, fun k hk hkg ⟨cs, t, fr, hc⟩ => ?_⟩
  · have b1 : Below n₀ w ((w.alloc o1).alloc o2) := ((Below.refl n₀ w).alloc (by omega) _).alloc (by simp only [World.size_alloc]; omega) _
    exact (b1.grown hg (by simp only [World.size_alloc]; omega) (fun k e => by have := hrow k e; omega)).setCell (p := ⟨g, 0, none⟩) hng u
  · have hlt : k < w.heap.size := (Array.getElem?_eq_some_iff.1 hc).1
    have hx : some k ≠ row := fun e => by have := hrow k e.symm; omega
    rw [heap_setCell_other w1 ⟨g, 0, none⟩ k u hkg, hg.block k (by simp only [World.size_alloc]; omega) hx, Below.heap_alloc _ _ _ (by simp only [World.size_alloc]; omega), Below.heap_alloc _ _ _ hlt]
theorem own_store {w1 : World} {e : TypeId} {s g M n : Nat} {v : Value} {xs : List Value} (h : w1.ownsRow M e s v n xs) (hg : g < M) (u : Value) : (w1.setCell ⟨g, 0, none⟩ u).ownsRow M e s v n xs :=
  h.kept (grownBy_setCell' w1 g u) (.inr fun e => by have := (h.lt g e).1; omega)

set_option maxRecDepth 100000 in
set_option maxHeartbeats 2000000 in
theorem cells1_c (b : Bx) (pre : List Bx) (v : Value) (n₀ g M : Nat) (w : World) (hc : w.cell? ⟨g, 0, none⟩ = some v) (hf : w.frozen? ⟨g, 0, none⟩ = false) (hown : w.ownsRow M 28 6 v pre.length (boxCells pre)) (hM : M ≤ w.heap.size) (hng : n₀ ≤ g) (hg : g < M) (hlen : pre.length ≤ 1000) :
    Calls Try.prog 68 #[(.agg #[.int .i64 b.lx, .int .i64 b.ly, .int .i64 b.lz, .int .i64 b.hx, .int .i64 b.hy, .int .i64 b.hz]), .pointer (some ⟨g, 0, none⟩)] w (fun e W' => e = .returned (.bool (decide (pre.length + 1 ≤ 1000))) ∧ Keeps n₀ g M w W' ∧
      ∃ v', W'.cell? ⟨g, 0, none⟩ = some v' ∧ W'.frozen? ⟨g, 0, none⟩ = false ∧ W'.ownsRow M 28 6 v' (pre ++ [b]).length (boxCells (pre ++ [b])) ∧ ∃ a c, v' = .slice a (pre.length + 1) c) := by
  obtain ⟨av, cv, rfl, hv1, hv2, _⟩ := own_shape hown
  have hv3 : cv ≤ 9223372036854775807 := hv2
  clear hv2
  have HO := Lib.hid hown
  have hne : some g ≠ (Value.slice av pre.length cv).ownBlock := fun e => by have := (hown.lt g e.symm).1; omega
  have HNE := Lib.hid hne
  have HMW := Lib.hid hM
  clear hown hne
  go_enter Try.func68, Try.ntmps68
  go_wp2_with (at_builtin; refine app_own_w rfl _ _ 22 rfl 28 (.agg #[.int .i64 0, .int .i64 0, .int .i64 0, .int .i64 0, .int .i64 0, .int .i64 0]) 6 48 Try.underlying22 info_box' rfl (by decide) M (.slice av pre.length cv) pre.length (boxCells pre) _ rfl ((HO.out.alloc _).alloc _) _ 1 1 (boxCells [b]) rfl rfl (cells_new ?_ _ _ _ rfl) (boxCells_one _) (by omega) (by decide) ?_ ?_; (first | rfl | simp [size_ext]); (have := HMW.out; simp only [World.size_alloc]; omega); intro v' w1 hown' hgrow; have HO2 := Lib.hid hown'; obtain ⟨a', c', rfl, _, hc2, _⟩ := own_shape hown'; have hc3 : c' ≤ 9223372036854775807 := hc2; obtain ⟨k1, k2⟩ := grow_cell2 hc hf hgrow HNE.out; have HG := Lib.hid hgrow; clear hown' hgrow hc2)
  have HC := Lib.hid hc
  go_ret
  refine ⟨congrArg (fun b => Ending.returned (.bool b)) ?_, keeps_step HG.out (fun k e => (HO.out.lt k e).1) hng hg HMW.out _, .slice a' (pre.length + 1) c', ?_, ?_, own_cells (own_store HO2.out hg _) rfl, a', c', rfl⟩
  · show decide (((pre.length : Int) + 1) ≤ 1000) = _
    rw [Bool.eq_iff_iff]; simp; omega
  · simp [go_sem, k1]
  · simp [go_sem, k2]

theorem enters_cells1 : Enters 68 := enters_of Try.func68 (by decide) (by simp [Try.f68])

def CellsJ (w0 : World) (g M : Nat) (pre : List Bx) (W : World) : Prop :=
  M ≤ W.heap.size ∧ g < M ∧ Below w0.heap.size w0 W ∧ pre.length ≤ 1000 ∧ ∃ a c, W.cell? ⟨g, 0, none⟩ = some (.slice a pre.length c) ∧ W.frozen? ⟨g, 0, none⟩ = false ∧ W.ownsRow M 28 6 (.slice a pre.length c) pre.length (boxCells pre)
def CellsX (w0 : World) (g N : Nat) (W : World) : Prop := Below w0.heap.size w0 W ∧ 1000 < N ∧ ∃ a n c, W.cell? ⟨g, 0, none⟩ = some (.slice a n c) ∧ 1000 < n ∧ n ≤ 1001
theorem frozen_below {W W' : World} {a : Addr} {v : Value} (hc : W.cell? a = some v) (hb : Below W.heap.size W W') : W'.frozen? a = W.frozen? a := by
  obtain ⟨y, rfl⟩ := ext_of hb
  exact frozen_ext W y a (by rw [hc]; rfl)
theorem cell_below {W W' : World} {a : Addr} {v : Value} (hc : W.cell? a = some v) (hb : Below W.heap.size W W') : W'.cell? a = some v := by
  obtain ⟨y, rfl⟩ := ext_of hb
  exact cell_ext_some hc y
theorem CellsJ.grown {w0 : World} {g M : Nat} {pre : List Bx} {W W' : World} (h : CellsJ w0 g M pre W) (hb : Below W.heap.size W W') : CellsJ w0 g M pre W' := by
  obtain ⟨h1, h2, h3, h4, a, c, h5, h6, h7⟩ := h
  exact ⟨Nat.le_trans h1 hb.size, h2, h3.trans (hb.mono h3.size), h4, a, c, cell_below h5 hb, (frozen_below h5 hb).trans h6, own_below2 h7 hb⟩
theorem CellsX.grown {w0 : World} {g N : Nat} {W W' : World} (h : CellsX w0 g N W) (hb : Below W.heap.size W W') : CellsX w0 g N W' := by
  obtain ⟨h1, h2, a, n, c, h3, h4, h5⟩ := h
  exact ⟨h1.trans (hb.mono h1.size), h2, a, n, c, cell_below h3 hb, h4, h5⟩

def cellsR (l m : List Bx) : List Bx × Int := if solidB l m = true then (if (cellsL l m).length ≤ 1000 then (cellsL l m, 0) else ([], 4)) else ([], 1)
/-- A slice of boxes of the call's own, and an error number. -/
def RetBoxes (w : World) (l : List Bx) (err : Int) (e : Ending) (w' : World) : Prop :=
  ∃ v, e = .returned (.tuple #[v, .int .i64 err]) ∧ w'.ownsRow w.heap.size 28 6 v l.length (boxCells l) ∧ ∃ x, w' = ext w x

set_option maxRecDepth 100000 in
set_option maxHeartbeats 4000000 in
theorem solidCells_c (l m : List Bx) (u t : Value) (w : World) (hl : Boxes w u l) (hm : Boxes w t m) :
    Calls Try.prog 36 #[.agg #[u, t]] w (RetBoxes w (cellsR l m).1 (cellsR l m).2) := by
  have HL := Lib.hid hl
  have HM := Lib.hid hm
  clear hl hm
  cases hv : solidB l m
  · have HR := Lib.hid (show cellsR l m = ([], 1) by unfold cellsR; rw [hv]; rfl)
    have HV := Lib.hid hv
    clear hv
    go_enter Try.func36, Try.ntmps36
    go_wp2_with fail
    go_at_call 30; refine (solidValid_v l m _ _ _ HV.out _ (HL.out.below (by (repeat (first | exact grow_refl _ | refine grow_ext _ ?_ | refine grow_alloc _ ?_ | refine grow_drew ?_)))) (HM.out.below (by (repeat (first | exact grow_refl _ | refine grow_ext _ ?_ | refine grow_alloc _ ?_ | refine grow_drew ?_))))).mono ?_; rintro e w' ⟨rfl, x1, rfl⟩
    go_wp2
    go_ret2
    rw [HR.out]
    exact ⟨_, rfl, World.ownsRow_nil _ _ _ _, ext_of (by (repeat (first | exact grow_refl _ | refine grow_ext _ ?_ | refine grow_alloc _ ?_ | refine grow_drew ?_)))⟩
  · have HR := Lib.hid (show cellsR l m = (if (cellsL l m).length ≤ 1000 then (cellsL l m, 0) else ([], 4)) by unfold cellsR; rw [hv]; rfl)
    have HV := Lib.hid hv
    clear hv
    go_enter Try.func36, Try.ntmps36
    go_wp2_with fail
    go_at_call 30; refine (solidValid_v l m _ _ _ HV.out _ (HL.out.below (by (repeat (first | exact grow_refl _ | refine grow_ext _ ?_ | refine grow_alloc _ ?_ | refine grow_drew ?_)))) (HM.out.below (by (repeat (first | exact grow_refl _ | refine grow_ext _ ?_ | refine grow_alloc _ ?_ | refine grow_drew ?_))))).mono ?_; rintro e w' ⟨rfl, x1, rfl⟩
    go_wp2_with fail
    have hbw : Below w.heap.size w ((ext (w.alloc (.cells #[u, t] 24)) x1).alloc (.cells #[.slice none 0 0] 22)) := by (repeat (first | exact grow_refl _ | refine grow_ext _ ?_ | refine grow_alloc _ ?_ | refine grow_drew ?_))
    go_at_call 51
    refine Calls.mono (each_c l m u t _ _ w.heap.size (w.heap.size + 1 + x1.heap.size) (by simp [size_ext]; omega) (by simp [size_ext]) (fun W' h => HL.out.below (hbw.trans h)) (fun W' h => HM.out.below (hbw.trans h)) HV.out
      (CellsJ w (w.heap.size + 1 + x1.heap.size)) (CellsX w (w.heap.size + 1 + x1.heap.size) (cellsL l m).length) (fun M pre W W' h hb => h.grown hb) (fun W W' h hb => h.grown hb) ?_ ?_) ?_
    · intro M pre x W hpre hB hgW hM hJ
      obtain ⟨h1, h2, h3, h4, a, c, h5, h6, h7⟩ := hJ
      refine .inr ⟨68, #[.pointer (some ⟨w.heap.size + 1 + x1.heap.size, 0, none⟩)], rfl, enters_cells1, ?_⟩
      refine (cells1_c x pre _ w.heap.size (w.heap.size + 1 + x1.heap.size) M W h5 h6 h7 h1 (by omega) h2 h4).mono ?_
      rintro e W' ⟨rfl, hk, v', hc', hf', ho', a', c', rfl⟩
      by_cases hp : pre.length + 1 ≤ 1000
      · exact .inl ⟨by rw [decide_eq_true hp], ⟨Nat.le_trans h1 hk.size, h2, h3.trans hk.below, by simpa using hp, a', c', by simpa using hc', hf', by simpa using ho'⟩, hk⟩
      · have hl := hpre.length_le
        rw [List.length_append, List.length_singleton] at hl
        exact .inr ⟨by rw [decide_eq_false hp], h3.trans hk.below, by omega, a', _, c', hc', by omega, by omega⟩
    · intro W hb
      have hs := hb.size
      simp only [World.size_alloc, size_ext] at hs
      exact ⟨Nat.le_refl _, by omega, hbw.trans (hb.mono (by simp only [World.size_alloc, size_ext]; omega)), by simp, none, 0, cell_below (by simp [go_sem]) hb, (frozen_below (v := .slice none 0 0) (by simp [go_sem]) hb).trans (by simp [go_sem]), World.ownsRow_nil _ _ _ _⟩
    rintro e W' ⟨rfl, (⟨M, h1, h2, h3, h4, a, c, h5, h6, h7⟩ | ⟨h1, h2, a, n, c, h3, h4, h5⟩)⟩
    · have d1 : decide ((1000 : Int) < ((cellsL l m).length : Int)) = false := by simp; omega
      rw [if_pos h4] at HR
      have HO := Lib.hid (own_mono (base' := w.heap.size) h7 (by omega))
      have HB := Lib.hid h3
      clear h3 h4 h6 h7 hbw
      generalize cellsL l m = cs at *
      go_wp2
      go_ret2
      rw [HR.out]
      exact ⟨_, rfl, HO.out, ext_of HB.out⟩
    · have d1 : decide ((1000 : Int) < (n : Int)) = true := by simp; omega
      rw [if_neg (by omega)] at HR
      have HB := Lib.hid h1
      clear h1 h2 hbw
      go_wp2
      go_ret2
      rw [HR.out]
      exact ⟨_, rfl, World.ownsRow_nil _ _ _ _, ext_of HB.out⟩

end Go.Proofs.Ytafkibnkpcmmgaa

namespace Go.Proofs.Ytafkibnkpcmmgaa
open Go.RowKit
set_option maxRecDepth 20000

abbrev Thick := { b : Bx // thickB b = true }
def encT (x : Thick) : Array Value := #[(.agg #[.int .i64 x.1.lx, .int .i64 x.1.ly, .int .i64 x.1.lz, .int .i64 x.1.hx, .int .i64 x.1.hy, .int .i64 x.1.hz])]
def KpT (n₀ g : Nat) (W W' : World) : Prop := ∀ M, Keeps n₀ g M W W'
theorem KpT.trans {n₀ g : Nat} {A B C : World} (h : KpT n₀ g A B) (k : KpT n₀ g B C) : KpT n₀ g A C := fun M => (h M).trans (k M)
theorem KpT.book {n₀ g : Nat} {w : World} (hn : n₀ ≤ w.heap.size) (W : World) (l : Nat) (o o' : Obj) (hl : w.heap.size ≤ l) (h : W.heap[l]? = some o) (hc : o.isCells = false) (hw : o.isWalk = false) : KpT n₀ g W (W.putObj l o') := fun M =>
  ⟨belowK_b hn W l o o' hl h hc hw, (grownBy_putObj' W l o').size, fun k _ _ ⟨cs, t, fr, hk⟩ => (grownBy_putObj' W l o').block k (Array.getElem?_eq_some_iff.1 hk).1 (fun e => by cases e; rw [h] at hk; cases hk; cases hc)⟩
theorem grown_of_below {A B : World} (h : Below A.heap.size A B) : A.grownBy B none := ⟨h.os, h.tape, h.output, h.size, fun k hk _ => h.block k hk⟩

set_option maxRecDepth 100000 in
set_option maxHeartbeats 4000000 in
theorem volSeq (l m : List Bx) (u t : Value) (B n₀ g k : Nat) (w0 : World) (hs : solidB l m = true) (hn : n₀ ≤ w0.heap.size) (hg : g < w0.heap.size) (hbl : ∀ W', Below n₀ w0 W' → Boxes W' u l) (hbm : ∀ W', Below n₀ w0 W' → Boxes W' t m) (hu : w0.cell? ⟨B, 0, none⟩ = some u) (ht : w0.cell? ⟨B, 1, none⟩ = some t) :
    SeqStopsK Fence.wide k Try.prog 50 #[.pointer (some ⟨B, 0, none⟩)] encT (KpT n₀ g) (fun xs => xs.map (·.1) = cellsL l m) (fun _ => True) (cellsL l m).length w0 := by
  intro ll J Jx W hW hJ hJx hY h0
  refine callsIn_wide.2 ?_
  show Calls Try.prog 50 #[.func (.yield ll) #[] #[], .pointer (some ⟨B, 0, none⟩)] W _
  have hsi := solid_iff.1 hs
  have hne : l ≠ [] := by rintro rfl; simp at hsi
  have su := cell_below hu hW
  have st := cell_below ht hW
  have hJg : ∀ (xs : List Thick) (A A' : World), J xs A → Below A.heap.size A A' → J xs A' := fun xs A A' h hb => hJ xs A A' none h (grown_of_below hb) (fun r e => by cases e)
  have hJxg : ∀ (xs : List Thick) (A A' : World), Jx xs A → Below A.heap.size A A' → Jx xs A' := fun xs A A' h hb => hJx xs A A' none h (grown_of_below hb) (fun r e => by cases e)
  have hWn : Below n₀ w0 W := hW.mono hn
  have KE := Lib.hid (each_c l m u t (.func (.yield ll) #[] #[]) W n₀ g (Nat.le_trans hn hW.size) (Nat.lt_of_lt_of_le hg hW.size) (fun W' h => hbl W' (hWn.trans h)) (fun W' h => hbm W' (hWn.trans h)) hs
    (fun _ pre W => ∃ xs : List Thick, xs.map (·.1) = pre ∧ J xs W) (fun W => ∃ xs : List Thick, Jx xs W) (fun M pre A A' ⟨xs, e, h⟩ hb => ⟨xs, e, hJg xs A A' h hb⟩) (fun A A' ⟨xs, h⟩ hb => ⟨xs, hJxg xs A A' h hb⟩)
    (fun M pre x A hp hb hgA hM ⟨xs, e, h⟩ => by
      have hx : x ∈ cellsL l m := hp.subset (by simp)
      have hl := hp.length_le
      rw [List.length_append, List.length_singleton] at hl
      have hlen : xs.length < (cellsL l m).length := by rw [← e, List.length_map] at hl; omega
      obtain ⟨fn, tmps, assign, body, hy, hR⟩ := hY xs ⟨x, cells_valid hsi.2.2.1 hne hx⟩ A h hlen
      refine .inl ⟨ll, k - 1, rfl, fn, tmps, assign, body, hy, hR.mono ?_⟩
      rintro e' W' (⟨rfl, hj, hk⟩ | ⟨rfl, hj⟩)
      · exact .inl ⟨rfl, ⟨_, by rw [List.map_append, e]; rfl, hj⟩, hk M⟩
      · exact .inr ⟨rfl, _, hj⟩)
    (fun A hb => ⟨[], rfl, hJg [] W A h0 hb⟩))
  clear hY hJ hJx h0 hJg hJxg hbl hbm hs hsi hne hW hWn hu ht
  go_enter Try.func50, Try.ntmps50
  go_wp2_with fail
  go_at_call 51
  refine KE.out.mono ?_
  rintro e W' ⟨rfl, (⟨M, xs, e, hj⟩ | ⟨xs, hj⟩)⟩
  · go_wp2
    go_end0
    exact ⟨⟨_, rfl⟩, .inl ⟨xs, e, hj⟩⟩
  · go_wp2
    go_end0
    exact ⟨⟨_, rfl⟩, .inr ⟨xs, trivial, hj⟩⟩

set_option maxRecDepth 100000 in
set_option maxHeartbeats 4000000 in
theorem secSeq (l m : List Bx) (u t : Value) (B n₀ g k : Nat) (w0 : World) (hs : solidB l m = true) (hn : n₀ ≤ w0.heap.size) (hg : g < w0.heap.size) (hbl : ∀ W', Below n₀ w0 W' → Boxes W' u l) (hbm : ∀ W', Below n₀ w0 W' → Boxes W' t m) (hu : w0.cell? ⟨B, 0, none⟩ = some u) (ht : w0.cell? ⟨B, 1, none⟩ = some t) :
    SeqStopsK Fence.wide k Try.prog 56 #[.pointer (some ⟨B, 0, none⟩)] encT (KpT n₀ g) (fun xs => xs.map (·.1) = cellsL l m) (fun _ => True) (cellsL l m).length w0 := by
  intro ll J Jx W hW hJ hJx hY h0
  refine callsIn_wide.2 ?_
  show Calls Try.prog 56 #[.func (.yield ll) #[] #[], .pointer (some ⟨B, 0, none⟩)] W _
  have hsi := solid_iff.1 hs
  have hne : l ≠ [] := by rintro rfl; simp at hsi
  have su := cell_below hu hW
  have st := cell_below ht hW
  have hJg : ∀ (xs : List Thick) (A A' : World), J xs A → Below A.heap.size A A' → J xs A' := fun xs A A' h hb => hJ xs A A' none h (grown_of_below hb) (fun r e => by cases e)
  have hJxg : ∀ (xs : List Thick) (A A' : World), Jx xs A → Below A.heap.size A A' → Jx xs A' := fun xs A A' h hb => hJx xs A A' none h (grown_of_below hb) (fun r e => by cases e)
  have hWn : Below n₀ w0 W := hW.mono hn
  have KE := Lib.hid (each_c l m u t (.func (.yield ll) #[] #[]) W n₀ g (Nat.le_trans hn hW.size) (Nat.lt_of_lt_of_le hg hW.size) (fun W' h => hbl W' (hWn.trans h)) (fun W' h => hbm W' (hWn.trans h)) hs
    (fun _ pre W => ∃ xs : List Thick, xs.map (·.1) = pre ∧ J xs W) (fun W => ∃ xs : List Thick, Jx xs W) (fun M pre A A' ⟨xs, e, h⟩ hb => ⟨xs, e, hJg xs A A' h hb⟩) (fun A A' ⟨xs, h⟩ hb => ⟨xs, hJxg xs A A' h hb⟩)
    (fun M pre x A hp hb hgA hM ⟨xs, e, h⟩ => by
      have hx : x ∈ cellsL l m := hp.subset (by simp)
      have hl := hp.length_le
      rw [List.length_append, List.length_singleton] at hl
      have hlen : xs.length < (cellsL l m).length := by rw [← e, List.length_map] at hl; omega
      obtain ⟨fn, tmps, assign, body, hy, hR⟩ := hY xs ⟨x, cells_valid hsi.2.2.1 hne hx⟩ A h hlen
      refine .inl ⟨ll, k - 1, rfl, fn, tmps, assign, body, hy, hR.mono ?_⟩
      rintro e' W' (⟨rfl, hj, hk⟩ | ⟨rfl, hj⟩)
      · exact .inl ⟨rfl, ⟨_, by rw [List.map_append, e]; rfl, hj⟩, hk M⟩
      · exact .inr ⟨rfl, _, hj⟩)
    (fun A hb => ⟨[], rfl, hJg [] W A h0 hb⟩))
  clear hY hJ hJx h0 hJg hJxg hbl hbm hs hsi hne hW hWn hu ht
  go_enter Try.func56, Try.ntmps56
  go_wp2_with fail
  go_at_call 51
  refine KE.out.mono ?_
  rintro e W' ⟨rfl, (⟨M, xs, e, hj⟩ | ⟨xs, hj⟩)⟩
  · go_wp2
    go_end0
    exact ⟨⟨_, rfl⟩, .inl ⟨xs, e, hj⟩⟩
  · go_wp2
    go_end0
    exact ⟨⟨_, rfl⟩, .inr ⟨xs, trivial, hj⟩⟩

end Go.Proofs.Ytafkibnkpcmmgaa

namespace Go.Proofs.Ytafkibnkpcmmgaa
open Go.RowKit
set_option maxRecDepth 20000
attribute [local go_sem] Oper.semAt_some

def volR (l m : List Bx) : Int × Int := if solidB l m = true then (if volI l m ≤ 1152921504606846976 then (volI l m, 0) else (0, 5)) else (0, 1)
def sumT (xs : List Thick) : Int := sumL volB (xs.map (·.1))
def volV (xs : List Thick) : Value := .int .u64 (IntKind.u64.wrap (sumT xs))

theorem u64_in {n : Int} (h : 0 ≤ n ∧ n ≤ 18446744073709551615) : IntKind.u64.wrap n = n := by rw [IntKind.wrap_u64]; omega
theorem i64_in' {n : Int} (h : -9223372036854775808 ≤ n ∧ n ≤ 9223372036854775807) : wrap64 n = n := by unfold wrap64; omega
theorem vol_step {s a b c : Int} (ha : 0 ≤ a ∧ a ≤ 2097152) (hb : 0 ≤ b ∧ b ≤ 2097152) (hc : 0 ≤ c ∧ c ≤ 2097152) :
    IntKind.u64.wrap (IntKind.u64.wrap s + IntKind.u64.wrap (IntKind.u64.wrap (IntKind.u64.wrap (wrap64 a) * IntKind.u64.wrap (wrap64 b)) * IntKind.u64.wrap (wrap64 c))) = IntKind.u64.wrap (s + a * b * c) := by
  have p1 : 0 ≤ a * b := Int.mul_nonneg ha.1 hb.1
  have p2 : a * b ≤ 4398046511104 := Int.le_trans (Int.mul_le_mul ha.2 hb.2 hb.1 (by omega)) (by decide)
  have p3 : 0 ≤ a * b * c := Int.mul_nonneg p1 hc.1
  have p4 : a * b * c ≤ 9223372036854775808 := Int.le_trans (Int.mul_le_mul p2 hc.2 hc.1 (by omega)) (by decide)
  rw [i64_in' (n := a) (by omega), i64_in' (n := b) (by omega), i64_in' (n := c) (by omega), u64_in (n := a) (by omega), u64_in (n := b) (by omega), u64_in (n := c) (by omega), u64_in (n := a * b) (by omega), u64_in (n := a * b * c) (by omega)]
  generalize a * b * c = v
  rw [IntKind.wrap_u64, IntKind.wrap_u64, IntKind.wrap_u64, Int.emod_add_emod]
theorem sumT_snoc (pre : List Thick) (x : Thick) : sumT (pre ++ [x]) = sumT pre + (x.1.hx - x.1.lx) * (x.1.hy - x.1.ly) * (x.1.hz - x.1.lz) := by
  unfold sumT
  rw [List.map_append, sumL_append]
  simp only [List.map_cons, List.map_nil, sumL, volB]
  omega

/-- Block B is a box of the call's own. -/
def BoxedX (W : World) (B : Nat) (b : Bx) : Prop := W.heap[B]? = some (.cells #[.int .i64 b.lx, .int .i64 b.ly, .int .i64 b.lz, .int .i64 b.hx, .int .i64 b.hy, .int .i64 b.hz] 28)
theorem BoxedX.kept {W W' : World} {row : Option Nat} {B : Nat} {b : Bx} (h : BoxedX W B b) (hg : W.grownBy W' row) (hr : ∀ r, row = some r → ∃ o : Obj, W.heap[r]? = some o ∧ o.isCells = false) : BoxedX W' B b :=
  (hg.block B (Array.getElem?_eq_some_iff.1 h).1 (fun e => by obtain ⟨o, ho, hc⟩ := hr B e.symm; rw [show W.heap[B]? = _ from h] at ho; cases ho; cases hc)).trans h
theorem BoxedX.cells {W : World} {B : Nat} {b : Bx} (h : BoxedX W B b) : W.cell? ⟨B, 0, none⟩ = some (.int .i64 b.lx) ∧ W.cell? ⟨B, 1, none⟩ = some (.int .i64 b.ly) ∧ W.cell? ⟨B, 2, none⟩ = some (.int .i64 b.lz) ∧
    W.cell? ⟨B, 3, none⟩ = some (.int .i64 b.hx) ∧ W.cell? ⟨B, 4, none⟩ = some (.int .i64 b.hy) ∧ W.cell? ⟨B, 5, none⟩ = some (.int .i64 b.hz) := by
  refine ⟨?_, ?_, ?_, ?_, ?_, ?_⟩ <;> simp [World.cell?, show W.heap[B]? = _ from h]
theorem enters_vol1 : Enters 50 := enters_of Try.func50 (by decide) (by simp [Try.f50])
theorem keeps_set {n₀ g : Nat} (hn : n₀ ≤ g) (W : World) (u : Value) : KpT n₀ g W (W.setCell ⟨g, 0, none⟩ u) := fun M =>
  ⟨(Below.refl _ _).setCell (p := ⟨g, 0, none⟩) hn u, by simp [World.setCell], fun k _ hk _ => heap_setCell_other W ⟨g, 0, none⟩ k u hk⟩

set_option maxRecDepth 100000 in
set_option maxHeartbeats 4000000 in
theorem volume_c (l m : List Bx) (u t : Value) (w : World) (hl : Boxes w u l) (hm : Boxes w t m) :
    Calls Try.prog 18 #[.agg #[u, t]] w (Ret w (.tuple #[.int .i64 (volR l m).1, .int .i64 (volR l m).2])) := by
  have HL := Lib.hid hl
  have HM := Lib.hid hm
  clear hl hm
  cases hv : solidB l m
  · have HR := Lib.hid (show volR l m = (0, 1) by unfold volR; rw [hv]; rfl)
    have HV := Lib.hid hv
    clear hv
    go_enter Try.func18, Try.ntmps18
    go_wp2_with fail
    go_at_call 30; refine (solidValid_v l m _ _ _ HV.out _ (HL.out.below (by (repeat (first | exact grow_refl _ | refine grow_ext _ ?_ | refine grow_alloc _ ?_ | refine grow_drew ?_)))) (HM.out.below (by (repeat (first | exact grow_refl _ | refine grow_ext _ ?_ | refine grow_alloc _ ?_ | refine grow_drew ?_))))).mono ?_; rintro e w' ⟨rfl, x1, rfl⟩
    go_wp2
    go_ret2
    rw [HR.out]
    exact Ret.of (by (repeat (first | exact grow_refl _ | refine grow_ext _ ?_ | refine grow_alloc _ ?_ | refine grow_drew ?_)))
  · have HR := Lib.hid (show volR l m = (if volI l m ≤ 1152921504606846976 then (volI l m, 0) else (0, 5)) by unfold volR; rw [hv]; rfl)
    have HV := Lib.hid hv
    clear hv
    refine (callsIn_wide (n := 3)).1 (callsIn_of_wp_marks Try.func18 rfl trivial ?_ rfl)
    simp only [Try.ntmps18, List.size_toArray, List.length_cons, List.length_nil, Nat.reduceAdd, Nat.reduceSub, Array.replicate_succ, Array.replicate_zero, List.push_toArray, List.append_toArray, List.nil_append, List.cons_append]
    refine wpIn_wide.2 ?_
    go_wp2_with fail
    go_at_call 30; refine (solidValid_v l m _ _ _ HV.out _ (HL.out.below (by (repeat (first | exact grow_refl _ | refine grow_ext _ ?_ | refine grow_alloc _ ?_ | refine grow_drew ?_)))) (HM.out.below (by (repeat (first | exact grow_refl _ | refine grow_ext _ ?_ | refine grow_alloc _ ?_ | refine grow_drew ?_))))).mono ?_; rintro e w' ⟨rfl, x1, rfl⟩
    go_wp2_with fail
    obtain ⟨g, hg⟩ : ∃ g, g = w.heap.size + 1 + x1.heap.size := ⟨_, rfl⟩
    rw [← hg]
    refine world_mask (fun W => Below w.heap.size w W ∧ g < W.heap.size ∧ W.cell? ⟨w.heap.size, 0, none⟩ = some u ∧ W.cell? ⟨w.heap.size, 1, none⟩ = some t ∧ Boxed W g 77 (.int .u64 0)) _ ?_ ?_
    · refine ⟨by (repeat (first | exact grow_refl _ | refine grow_ext _ ?_ | refine grow_alloc _ ?_ | refine grow_drew ?_)), by rw [hg]; simp [size_ext], by simp [go_sem], by simp [go_sem], ?_⟩
      have := Boxed.new (ext (w.alloc (.cells #[u, t] 24)) x1) 77 (.int .u64 0)
      rw [size_ext, World.size_alloc, ← hg] at this
      exact this
    rintro W0 ⟨hB0, hgW, hu, ht, hbx⟩
    have hwg : w.heap.size < g := by omega
    clear hg
    refine (wpIn_wide (n := 3)).1 (wpIn_rangeFunc_ownH rfl (by omega) (gf := 50) (lb := #[.pointer (some ⟨w.heap.size, 0, none⟩)]) rfl trivial enters_vol1
      (volSeq l m u t w.heap.size w.heap.size g 2 W0 HV.out hB0.size hgW (fun W' h => HL.out.below (hB0.trans h)) (fun W' h => HM.out.below (hB0.trans h)) hu ht) (fun h k => KpT.trans h k) (KpT.book hB0.size) (Below.refl _ _) (fun _ => rfl)
      (fun pre W => Boxed W g 77 (volV pre) ∧ Below w.heap.size w W)
      (fun _ _ _ => False)
      (OwnFrom.and (Own.from (boxed_own g 77 volV) _) (ownFrom_below (Nat.le_refl _) hB0.size))
      (fun _ _ _ _ _ hs _ _ => hs)
      ⟨hbx, hB0⟩
      (fun x a' W => ∃ bx, g < bx ∧ BoxedX W bx x.1 ∧ a' = { tmps := #[.agg #[u, t], .pointer (some ⟨w.heap.size, 0, none⟩), .int .i64 0, .int .i64 0, .pointer (some ⟨g, 0, none⟩), .pointer (some ⟨bx, 0, none⟩), .agg #[u, t], .bool true, .bool false, .func (.func 50) #[] #[.pointer (some ⟨w.heap.size, 0, none⟩)], (.agg #[.int .i64 x.1.lx, .int .i64 x.1.ly, .int .i64 x.1.lz, .int .i64 x.1.hx, .int .i64 x.1.hy, .int .i64 x.1.hz]), undef, undef, undef, undef, undef, undef, undef, undef, undef, undef, undef, undef, undef, undef, undef, undef, undef, undef, undef, undef, undef, undef, undef, undef, undef, undef, undef, undef, undef, undef, undef, undef], defers := [] })
      (fun x a' _ X Y row hs hgr hr => by obtain ⟨bx, h1, h2, h3⟩ := hs; exact ⟨bx, h1, h2.kept hgr (fun r e => (hr r e).2), h3⟩)
      ?assign ?body ?done ?stop)
    case assign =>
      rintro ll pre x W K ⟨hb, hB⟩ hK
      simp only [encT]
      gi_wp2
      exact hK _ _ ((KeepsOthers.alloc _ _).from _) (fun M => Keeps.of_grown hB.size (by (repeat (first | exact grow_refl _ | refine grow_ext _ ?_ | refine grow_alloc _ ?_ | refine grow_drew ?_)))) ⟨hb.alloc _, hB.alloc hB.size _⟩ ⟨W.heap.size, hb.lt, World.alloc_heap_new _ _, rfl⟩
    case body =>
      rintro ll pre x a' W hl ⟨r, hr⟩ ⟨hb, hB⟩ ⟨bx, hbx2, bX, rfl⟩ hlt
      obtain ⟨S, hS⟩ : ∃ S, S = IntKind.u64.wrap (sumT pre) := ⟨_, rfl⟩
      have hb' : Boxed W g 77 (.int .u64 S) := by rw [hS]; exact hb
      have kg := hb'.cell
      have fg := hb'.frozen
      have HS := Lib.hid hS
      have HBX := Lib.hid hb'
      have HB := Lib.hid hB
      obtain ⟨d0, d1, d2, d3, d4, d5⟩ := bX.cells
      have hx := valid_iff.1 (thick_iff.1 x.2).1
      have HX := Lib.hid hx
      clear hS hb hb' hB hx bX hr
      gi_wp2
      refine ⟨(KeepsOthers.setCell _ _ _).from _, keeps_set (by omega) _ _, ?_, HB.out.setCell (p := ⟨g, 0, none⟩) (by simp; omega) _⟩
      have hx := HX.out
      have hst := vol_step (s := sumT pre) (a := x.1.hx - x.1.lx) (b := x.1.hy - x.1.ly) (c := x.1.hz - x.1.lz) (by omega) (by omega) (by omega)
      unfold volV
      rw [sumT_snoc, ← hst, ← HS.out]
      exact HBX.out.set _
    case done =>
      rintro D xs W hD hS ⟨hb, hB⟩ hK
      have hvol : sumT xs = volI l m := by unfold sumT volI; rw [hS]
      unfold volV at hb
      rw [hvol] at hb
      have h0 := volI_nonneg l m
      have hsi := solid_iff.1 HV.out
      have h1 := volI_le (m := m) hsi.2.2.1 (by rintro rfl; simp at hsi)
      rw [u64_in (n := volI l m) (by omega)] at hb
      have kg := hb.cell
      generalize volI l m = V at *
      have HK := Lib.hid hK
      have HB := Lib.hid hB
      have HBK : Hid (Below w.heap.size w (W.putObj D (.deferred none))) := hB.trans (belowK_b (w := w) (Nat.le_refl _) W D _ _ (by have := hB0.size; omega) hK rfl rfl)
      clear hvol hb hK hB hS hsi hB0
      by_cases hv : V ≤ 1152921504606846976
      · rw [if_pos hv] at HR
        have d1 : decide (1152921504606846976 < V) = false := by simpa using hv
        go_wp2
        refine ⟨by simp, .inl ⟨_, _, rfl, run_takeDeferred HK.out, ?_⟩⟩
        refine ⟨.tuple #[.int .i64 V, .int .i64 0], by simp [results, Try.results18, go_sem], ?_⟩
        rw [HR.out]
        exact ⟨rfl, ext_of HBK.out⟩
      · rw [if_neg hv] at HR
        have d1 : decide (1152921504606846976 < V) = true := by simp; omega
        go_wp2
        refine ⟨by simp, .inl ⟨_, _, rfl, run_takeDeferred HK.out, ?_⟩⟩
        refine ⟨.tuple #[.int .i64 0, .int .i64 5], by simp [results, Try.results18, go_sem], ?_⟩
        rw [HR.out]
        exact ⟨rfl, ext_of HBK.out⟩
    case stop =>
      rintro D c pre W _ _ h _
      exact h.elim

end Go.Proofs.Ytafkibnkpcmmgaa

namespace Go.Proofs.Ytafkibnkpcmmgaa
open Go.RowKit
set_option maxRecDepth 20000
attribute [local go_sem] Oper.semAt_some

def sectR (l m : List Bx) (x : Int) : Int × Int := if solidB l m = true then (if -1048576 ≤ x ∧ x ≤ 1048576 then (sectI l m x, 0) else (0, 2)) else (0, 1)
def secF (x : Int) (c : Bx) : Int := if c.lx ≤ x ∧ x < c.hx then areaB c else 0
def secT (x : Int) (xs : List Thick) : Int := sumL (secF x) (xs.map (·.1))
def secV (x : Int) (xs : List Thick) : Value := .int .i64 (wrap64 (secT x xs))
theorem sec_nil (x : Int) : secV x [] = .int .i64 0 := by simp [secV, secT, sumL, wrap64]
theorem secT_snoc (x : Int) (pre : List Thick) (c : Thick) : secT x (pre ++ [c]) = secT x pre + secF x c.1 := by
  unfold secT
  rw [List.map_append, sumL_append]
  simp only [List.map_cons, List.map_nil, sumL]
  omega
theorem sec_step {s b c : Int} (hb : 0 ≤ b ∧ b ≤ 2097152) (hc : 0 ≤ c ∧ c ≤ 2097152) : wrap64 (wrap64 s + wrap64 (wrap64 b * wrap64 c)) = wrap64 (s + b * c) := by
  have p1 : 0 ≤ b * c := Int.mul_nonneg hb.1 hc.1
  have p2 : b * c ≤ 4398046511104 := Int.le_trans (Int.mul_le_mul hb.2 hc.2 hc.1 (by omega)) (by decide)
  rw [i64_in' (n := b) (by omega), i64_in' (n := c) (by omega)]
  generalize b * c = v at *
  unfold wrap64
  omega
theorem heap_below2 {W W' : World} {B : Nat} {t : TypeId} {v : Value} (h : Boxed W B t v) (hb : Below W.heap.size W W') : Boxed W' B t v := (hb.block B h.lt).trans h
theorem enters_sec1 : Enters 56 := enters_of Try.func56 (by decide) (by simp [Try.f56])
theorem sect_bound {l m : List Bx} (h : l.all thickB = true) (h0 : l ≠ []) (x : Int) : 0 ≤ sectI l m x ∧ sectI l m x ≤ 4398046511104 := by
  rw [sect_eq h h0]
  refine ⟨sec_nonneg x, ?_⟩
  have ht := hull_thick h h0
  have hv := valid_iff.1 (thick_iff.1 ht).1
  have ho := ord_of ht
  have e : sumI (fun _ => sumI (fun _ => (1 : Int)) (hullX l).lz (hullX l).hz) (hullX l).ly (hullX l).hy = ((hullX l).hz - (hullX l).lz) * ((hullX l).hy - (hullX l).ly) := by
    rw [sumI_const _ ho.2.2, Int.one_mul, sumI_const _ ho.2.1]
  have h1 : secI l m (hullX l) x ≤ sumI (fun _ => sumI (fun _ => (1 : Int)) (hullX l).lz (hullX l).hz) (hullX l).ly (hullX l).hy := sumI_le fun _ _ _ => sumI_le fun _ _ _ => (ind_bounds _ _ _).2
  rw [e] at h1
  exact Int.le_trans h1 (Int.le_trans (Int.mul_le_mul (show _ ≤ (2097152 : Int) by omega) (show _ ≤ (2097152 : Int) by omega) (by omega) (by omega)) (by decide))

set_option maxRecDepth 100000 in
set_option maxHeartbeats 4000000 in
theorem section_c (l m : List Bx) (u t : Value) (x : Int) (w : World) (hl : Boxes w u l) (hm : Boxes w t m) :
    Calls Try.prog 23 #[.agg #[u, t], .int .i64 x] w (Ret w (.tuple #[.int .i64 (sectR l m x).1, .int .i64 (sectR l m x).2])) := by
  have HL := Lib.hid hl
  have HM := Lib.hid hm
  clear hl hm
  cases hv : solidB l m
  · have HR := Lib.hid (show sectR l m x = (0, 1) by unfold sectR; rw [hv]; rfl)
    have HV := Lib.hid hv
    clear hv
    go_enter Try.func23, Try.ntmps23
    go_wp2_with fail
    go_at_call 30; refine (solidValid_v l m _ _ _ HV.out _ (HL.out.below (by (repeat (first | exact grow_refl _ | refine grow_ext _ ?_ | refine grow_alloc _ ?_ | refine grow_drew ?_)))) (HM.out.below (by (repeat (first | exact grow_refl _ | refine grow_ext _ ?_ | refine grow_alloc _ ?_ | refine grow_drew ?_))))).mono ?_; rintro e w' ⟨rfl, x1, rfl⟩
    go_wp2
    go_ret2
    rw [HR.out]
    exact Ret.of (by (repeat (first | exact grow_refl _ | refine grow_ext _ ?_ | refine grow_alloc _ ?_ | refine grow_drew ?_)))
  by_cases hx : -1048576 ≤ x ∧ x ≤ 1048576
  · have HR := Lib.hid (show sectR l m x = (sectI l m x, 0) by unfold sectR; rw [hv, if_pos rfl, if_pos hx])
    have HV := Lib.hid hv
    have d1 : decide (x < -1048576) = false := by simp; omega
    have d2 : decide (1048576 < x) = false := by simp; omega
    clear hv hx
    refine (callsIn_wide (n := 3)).1 (callsIn_of_wp_marks Try.func23 rfl trivial ?_ rfl)
    simp only [Try.ntmps23, List.size_toArray, List.length_cons, List.length_nil, Nat.reduceAdd, Nat.reduceSub, Array.replicate_succ, Array.replicate_zero, List.push_toArray, List.append_toArray, List.nil_append, List.cons_append]
    refine wpIn_wide.2 ?_
    go_wp2_with fail
    go_at_call 30; refine (solidValid_v l m _ _ _ HV.out _ (HL.out.below (by (repeat (first | exact grow_refl _ | refine grow_ext _ ?_ | refine grow_alloc _ ?_ | refine grow_drew ?_)))) (HM.out.below (by (repeat (first | exact grow_refl _ | refine grow_ext _ ?_ | refine grow_alloc _ ?_ | refine grow_drew ?_))))).mono ?_; rintro e w' ⟨rfl, x1, rfl⟩
    go_wp2_with fail
    obtain ⟨g, hg⟩ : ∃ g, g = w.heap.size + 1 + 1 + x1.heap.size := ⟨_, rfl⟩
    rw [← hg]
    refine world_mask (fun W => Below w.heap.size w W ∧ g < W.heap.size ∧ W.cell? ⟨w.heap.size, 0, none⟩ = some u ∧ W.cell? ⟨w.heap.size, 1, none⟩ = some t ∧ Boxed W (w.heap.size + 1) 3 (.int .i64 x) ∧ Boxed W g 3 (.int .i64 0)) _ ?_ ?_
    · refine ⟨by (repeat (first | exact grow_refl _ | refine grow_ext _ ?_ | refine grow_alloc _ ?_ | refine grow_drew ?_)), by rw [hg]; simp [size_ext], by simp [go_sem], by simp [go_sem], ?_, ?_⟩
      · have := Boxed.new (w.alloc (.cells #[u, t] 24)) 3 (.int .i64 x)
        rw [World.size_alloc] at this
        exact (heap_below2 this (by (repeat (first | exact grow_refl _ | refine grow_ext _ ?_ | refine grow_alloc _ ?_ | refine grow_drew ?_))))
      · have := Boxed.new (ext ((w.alloc (.cells #[u, t] 24)).alloc (.cells #[.int .i64 x] 3)) x1) 3 (.int .i64 0)
        rw [size_ext, World.size_alloc, World.size_alloc, ← hg] at this
        exact this
    rintro W0 ⟨hB0, hgW, hu, ht, hbxx, hbx⟩
    have hwg : w.heap.size + 1 < g := by omega
    clear hg
    refine (wpIn_wide (n := 3)).1 (wpIn_rangeFunc_ownH rfl (by omega) (gf := 56) (lb := #[.pointer (some ⟨w.heap.size, 0, none⟩)]) rfl trivial enters_sec1
      (secSeq l m u t w.heap.size w.heap.size g 2 W0 HV.out hB0.size hgW (fun W' h => HL.out.below (hB0.trans h)) (fun W' h => HM.out.below (hB0.trans h)) hu ht) (fun h k => KpT.trans h k) (KpT.book hB0.size) (Below.refl _ _) (fun _ => rfl)
      (fun pre W => (Boxed W g 3 (secV x pre) ∧ Boxed W (w.heap.size + 1) 3 (.int .i64 x)) ∧ Below w.heap.size w W)
      (fun _ _ _ => False)
      (OwnFrom.and (OwnFrom.and (Own.from (boxed_own g 3 (secV x)) _) (Own.from (boxed_own _ _ (fun _ => .int .i64 x)) _)) (ownFrom_below (Nat.le_refl _) hB0.size))
      (fun _ _ _ _ _ hs _ _ => hs)
      ⟨⟨by rw [sec_nil]; exact hbx, hbxx⟩, hB0⟩
      (fun c a' W => ∃ bx, g < bx ∧ BoxedX W bx c.1 ∧ a' = { tmps := #[.agg #[u, t], .int .i64 x, .pointer (some ⟨w.heap.size, 0, none⟩), .pointer (some ⟨w.heap.size + 1, 0, none⟩), .int .i64 0, .int .i64 0, .pointer (some ⟨g, 0, none⟩), .pointer (some ⟨bx, 0, none⟩), .bool false, .agg #[u, t], .bool true, .bool false, .bool false, .int .i64 x, .bool false, .bool false, .int .i64 x, .bool false, .bool false, .func (.func 56) #[] #[.pointer (some ⟨w.heap.size, 0, none⟩)], (.agg #[.int .i64 c.1.lx, .int .i64 c.1.ly, .int .i64 c.1.lz, .int .i64 c.1.hx, .int .i64 c.1.hy, .int .i64 c.1.hz]), undef, undef, undef, undef, undef, undef, undef, undef, undef, undef, undef, undef, undef, undef, undef, undef, undef, undef, undef, undef, undef, undef, undef, undef, undef, undef, undef, undef, undef, undef], defers := [] })
      (fun x a' _ X Y row hs hgr hr => by obtain ⟨bx, h1, h2, h3⟩ := hs; exact ⟨bx, h1, h2.kept hgr (fun r e => (hr r e).2), h3⟩)
      ?assign ?body ?done ?stop)
    case assign =>
      rintro ll pre c W K ⟨⟨hb, hbb⟩, hB⟩ hK
      simp only [encT]
      gi_wp2
      exact hK _ _ ((KeepsOthers.alloc _ _).from _) (fun M => Keeps.of_grown hB.size (by (repeat (first | exact grow_refl _ | refine grow_ext _ ?_ | refine grow_alloc _ ?_ | refine grow_drew ?_)))) ⟨⟨hb.alloc _, hbb.alloc _⟩, hB.alloc hB.size _⟩ ⟨W.heap.size, hb.lt, World.alloc_heap_new _ _, rfl⟩
    case body =>
      rintro ll pre c a' W hl ⟨r, hr⟩ ⟨⟨hb, hbb⟩, hB⟩ ⟨bx, hbx2, bX, rfl⟩ hlt
      obtain ⟨S, hS⟩ : ∃ S, S = wrap64 (secT x pre) := ⟨_, rfl⟩
      have hb' : Boxed W g 3 (.int .i64 S) := by rw [hS]; exact hb
      have kg := hb'.cell
      have fg := hb'.frozen
      have kx := hbb.cell
      have HS := Lib.hid hS
      have HBX := Lib.hid hb'
      have HBB := Lib.hid hbb
      have HB := Lib.hid hB
      obtain ⟨d0, d1', d2', d3, d4, d5⟩ := bX.cells
      have hcv := valid_iff.1 (thick_iff.1 c.2).1
      have HX := Lib.hid hcv
      have HST := Lib.hid (secT_snoc x pre c)
      by_cases hin : c.1.lx ≤ x ∧ x < c.1.hx
      · have t1 : decide (c.1.lx ≤ x) = true := by simpa using hin.1
        have t2 : decide (x < c.1.hx) = true := by simpa using hin.2
        have HF := Lib.hid (show secF x c.1 = areaB c.1 from if_pos hin)
        clear hS hb hb' hbb hB hcv bX hr hin
        gi_wp2
        refine ⟨(KeepsOthers.setCell _ _ _).from _, keeps_set (by omega) _ _, ⟨?_, HBB.out.other (by omega) _⟩, HB.out.setCell (p := ⟨g, 0, none⟩) (by simp; omega) _⟩
        have hx := HX.out
        have hst := sec_step (s := secT x pre) (b := c.1.hy - c.1.ly) (c := c.1.hz - c.1.lz) (by omega) (by omega)
        unfold secV
        rw [HST.out, HF.out, show areaB c.1 = (c.1.hy - c.1.ly) * (c.1.hz - c.1.lz) from rfl, ← hst, ← HS.out]
        exact HBX.out.set _
      · have HF := Lib.hid (show secF x c.1 = 0 from if_neg hin)
        have HI : Hid (Boxed W g 3 (secV x (pre ++ [c]))) := by
          unfold secV
          rw [HST.out, HF.out, Int.add_zero]; exact hb
        by_cases h1 : c.1.lx ≤ x
        · have t1 : decide (c.1.lx ≤ x) = true := by simpa using h1
          have t2 : decide (x < c.1.hx) = false := by simp; omega
          clear hS hb hb' hbb hB hcv bX hr hin
          gi_wp2
          exact ⟨KeepsFrom.refl _ _, fun M => Keeps.refl _ _ _ _, ⟨HI.out, HBB.out⟩, HB.out⟩
        · have t1 : decide (c.1.lx ≤ x) = false := by simpa using h1
          clear hS hb hb' hbb hB hcv bX hr hin
          gi_wp2
          exact ⟨KeepsFrom.refl _ _, fun M => Keeps.refl _ _ _ _, ⟨HI.out, HBB.out⟩, HB.out⟩
    case done =>
      rintro D xs W hD hS ⟨⟨hb, hbb⟩, hB⟩ hK
      have hsec : secT x xs = sectI l m x := by unfold secT sectI; rw [hS]; rfl
      unfold secV at hb
      rw [hsec] at hb
      have hsi := solid_iff.1 HV.out
      have h1 := sect_bound (m := m) hsi.2.2.1 (by rintro rfl; simp at hsi) x
      rw [i64_in' (n := sectI l m x) (by omega)] at hb
      have kg := hb.cell
      generalize sectI l m x = V at *
      have HK := Lib.hid hK
      have HBK : Hid (Below w.heap.size w (W.putObj D (.deferred none))) := hB.trans (belowK_b (w := w) (Nat.le_refl _) W D _ _ (by have := hB0.size; omega) hK rfl rfl)
      clear hsec hb hbb hK hB hS hsi hB0
      go_wp2
      refine ⟨by simp, .inl ⟨_, _, rfl, run_takeDeferred HK.out, ?_⟩⟩
      refine ⟨.tuple #[.int .i64 V, .int .i64 0], by simp [results, Try.results23, go_sem], ?_⟩
      rw [HR.out]
      exact ⟨rfl, ext_of HBK.out⟩
    case stop =>
      rintro D c pre W _ _ h _
      exact h.elim
  · have HR := Lib.hid (show sectR l m x = (0, 2) by unfold sectR; rw [hv, if_pos rfl, if_neg hx])
    have HV := Lib.hid hv
    clear hv
    by_cases h1 : x < -1048576
    · go_enter Try.func23, Try.ntmps23
      go_wp2_with fail
      go_at_call 30; refine (solidValid_v l m _ _ _ HV.out _ (HL.out.below (by (repeat (first | exact grow_refl _ | refine grow_ext _ ?_ | refine grow_alloc _ ?_ | refine grow_drew ?_)))) (HM.out.below (by (repeat (first | exact grow_refl _ | refine grow_ext _ ?_ | refine grow_alloc _ ?_ | refine grow_drew ?_))))).mono ?_; rintro e w' ⟨rfl, x1, rfl⟩
      go_wp2
      go_ret2
      rw [HR.out]
      exact Ret.of (by (repeat (first | exact grow_refl _ | refine grow_ext _ ?_ | refine grow_alloc _ ?_ | refine grow_drew ?_)))
    · have h2 : 1048576 < x := by omega
      clear hx
      go_enter Try.func23, Try.ntmps23
      go_wp2_with fail
      go_at_call 30; refine (solidValid_v l m _ _ _ HV.out _ (HL.out.below (by (repeat (first | exact grow_refl _ | refine grow_ext _ ?_ | refine grow_alloc _ ?_ | refine grow_drew ?_)))) (HM.out.below (by (repeat (first | exact grow_refl _ | refine grow_ext _ ?_ | refine grow_alloc _ ?_ | refine grow_drew ?_))))).mono ?_; rintro e w' ⟨rfl, x1, rfl⟩
      go_wp2
      go_ret2
      rw [HR.out]
      exact Ret.of (by (repeat (first | exact grow_refl _ | refine grow_ext _ ?_ | refine grow_alloc _ ?_ | refine grow_drew ?_)))

end Go.Proofs.Ytafkibnkpcmmgaa


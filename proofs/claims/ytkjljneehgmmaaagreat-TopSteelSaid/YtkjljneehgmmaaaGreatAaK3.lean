/- LaidC, LaidK2 in one text. -/
import Derived.Test.YtkjljneehgmmaaaGreatLaidK0
import Derived.Test.YtkjljneehgmmaaaGreatExtK
import Derived.Deep.DeepCutAuto
import Derived.Test.YtkjljneehgmmaaaGreatLaidK1
namespace Go.Proofs.YtkjljneehgmmaaaGreat
open Go.RowKit
set_option maxRecDepth 20000

def NearK (p : Pt) (k : Nat) : Prop := (-(262144 * (k : Int)) ≤ p.x ∧ p.x ≤ 262144 * (k : Int)) ∧ (-(262144 * (k : Int)) ≤ p.y ∧ p.y ≤ 262144 * (k : Int)) ∧ -(262144 * (k : Int)) ≤ p.z ∧ p.z ≤ 262144 * (k : Int)
structure PathJ (w : World) (b : Br) (l : List (Nat × Int)) (g1 g4 gl : Nat) (k : Nat) (v : Value) (wr : World) : Prop where
 below : Below w.heap.size w wr
 bar : Blk wr g1 #[.string b.mark, .int .i64 b.size, .int .i64 b.count, .int .i64 b.code, b.dv] 81
 point : Blk wr g4 #[.int .i64 (atK b.dims l k).x, .int .i64 (atK b.dims l k).y, .int .i64 (atK b.dims l k).z] 38
 legs : Blk wr gl (legCells l).toArray 273
 row : wr.ownsRow (g4 + 1) 38 3 v (k + 1) (ptCells (ptsK b.dims l k))
 near : NearK (atK b.dims l k) k

theorem cell_below' {w w' : World} {a : Addr} {v : Value} (h : w.cell? a = some v) (hb : Below w.heap.size w w') : w'.cell? a = some v := by
 obtain ⟨y, rfl⟩ := ext_of hb
 exact cell_ext_some h y
theorem PathJ.step {w : World} {b : Br} {l : List (Nat × Int)} {g1 g4 gl k : Nat} {v : Value} {wr : World} (h : PathJ w b l g1 g4 gl k v wr) (h1 : w.heap.size ≤ g4) (h14 : g1 ≠ g4) (h4l : gl ≠ g4) (h1w : g1 < g4 + 1) (o : Obj) (i : Nat) (u : Value) (o2 : Obj)
  (P0 P : Pt) (hP0 : atK b.dims l k = P0) (hP : (#[Value.int .i64 P0.x, .int .i64 P0.y, .int .i64 P0.z] : Array Value).setIfInBounds i u = #[.int .i64 P.x, .int .i64 P.y, .int .i64 P.z]) (hat : atK b.dims l (k + 1) = P) (hn : NearK P (k + 1)) {v' : Value} {w' : World}
  (hown : w'.ownsRow (g4 + 1) 38 3 v' (k + 1 + 1) (ptCells (ptsK b.dims l k) ++ ptCells [P])) (hg : ((((wr.setCell ⟨g4, i, none⟩ u).alloc o).alloc o2).grownBy w' v.ownBlock)) : PathJ w b l g1 g4 gl (k + 1) v' w' := by
 have s1 : w.heap.size ≤ wr.heap.size := h.below.size
 have hrow : ∀ k, v.ownBlock = some k → w.heap.size ≤ k := fun k e => by have := (h.row.lt k e).1; omega
 have r4 : some g4 ≠ v.ownBlock := own_base_ne h.row (Nat.lt_succ_self _)
 have r1 : some g1 ≠ v.ownBlock := own_base_ne h.row h1w
 have rl : some gl ≠ v.ownBlock := h.legs.ne_row h.row (by decide)
 subst hP0
 refine ⟨?_, ?_, ?_, ?_, ?_, by rw [hat]; exact hn⟩
 ·have hb : Below w.heap.size w (((wr.setCell ⟨g4, i, none⟩ u).alloc o).alloc o2) := ((h.below.setCell (p := ⟨g4, i, none⟩) h1 u).alloc (by simp only [World.setCell, Array.size_modify]; omega) _).alloc (by simp only [World.setCell, Array.size_modify, World.size_alloc]; omega) _
  exact hb.grown hg (by simp only [World.size_alloc, World.setCell, Array.size_modify]; omega) hrow
 ·exact (((h.bar.other (a := ⟨g4, i, none⟩) h14 u).alloc o).alloc o2).grown hg r1
 ·have := (((h.point.set i u).alloc o).alloc o2).grown hg r4
  rw [hP] at this
  rw [hat]; exact this
 ·exact (((h.legs.other (a := ⟨g4, i, none⟩) h4l u).alloc o).alloc o2).grown hg rl
 ·rw [ptsK_succ, ptCells_append, hat]; exact hown

set_option maxRecDepth 100000 in
set_option maxHeartbeats 4000000 in
theorem path_ok (b : Br) (h : shapeB b = true) (w : World) (hb : BrOk w b) :
  Calls Tryz.prog 183 #[(.agg #[.string b.mark, .int .i64 b.size, .int .i64 b.count, .int .i64 b.code, b.dv])] w (fun e W => ∃ v, e = .returned (.tuple #[v, .int .i64 0]) ∧ W.ownsRow w.heap.size 38 3 v (pathL b).length (ptCells (pathL b)) ∧ ∃ x, W = ext w x) := by
 have HV := hd0 (fun w hb => shapeValid_v b true h w hb)
 have HK := hd0 hb
 have hne : legsC b.code ≠ [] := by
  intro e
  have := (shape_facts h).1
  unfold dimsR at this
  rw [e] at this
  exact absurd this (by decide)
 have HL := hd0 (fun w => legs_b b.code hne w)
 have HD := hd0 (legs_dims h)
 have HW := hd0 (legs_way b.code).2
 have HM := hd0 (restB_mem (shape_facts h).2.2.2.2.2)
 obtain ⟨ad, cap, ev, k2, k3, k4⟩ := hb.dims
 have K4 := hd0 k4
 have hlen := (legs_way b.code).1
 have hpl : pathL b = ptsK b.dims (legsC b.code) (legsC b.code).length := rfl
 obtain ⟨l, hl⟩ : ∃ l, legsC b.code = l := ⟨_, rfl⟩
 rw [hl] at HL HD HW hlen hpl
 rw [hpl]
 have HE := hd0 ev
 clear hb h hne k4 hl hpl ev
 go_enter Tryz.func183, Tryz.ntmps183
 go_wp2_with fail
 go_at_call 189; refine (HV.out _ (HK.out.below gro)).mono ?_; rintro e w' ⟨rfl, x1, rfl⟩
 go_wp2_with fail
 go_at_call 196; refine (HL.out _).mono ?_; rintro e w' ⟨gl, rfl, hL, hgl, x2, rfl⟩
 have J : PathJ w b l w.heap.size (w.heap.size + 1 + x1.heap.size) gl 0 (.slice (some ⟨w.heap.size + 1 + x1.heap.size + 1, 0, none⟩) 1 1) _ := ⟨gro,
  Blk.ext (Blk.alloc (Blk.alloc (Blk.ext (Blk.new' rfl _ _) _) _) _) _, Blk.ext (Blk.alloc (Blk.new' (by simp [size_ext]) _ _) _) _, hL, own_ext (own_lit (base := w.heap.size + 1 + x1.heap.size + 1) _ _ _ _ _ (by simp [size_ext]) (by simp [size_ext]) (by decide) rfl rfl) _, by rw [show atK b.dims l 0 = ⟨0, 0, 0⟩ from rfl]; unfold NearK; simp⟩
 have hgl2 : gl ≠ w.heap.size + 1 + x1.heap.size := by simp only [World.size_alloc, size_ext] at hgl; omega
 have HG := hd0 hgl2
 clear hL hgl hgl2
 go_wp2_with fail
 refine world_mask (fun W => PathJ w b l w.heap.size (w.heap.size + 1 + x1.heap.size) gl 0 (.slice (some ⟨w.heap.size + 1 + x1.heap.size + 1, 0, none⟩) 1 1) W) _ J ?_
 clear J
 rintro W1 J
 obtain ⟨g4, hg4⟩ : ∃ g4, g4 = w.heap.size + 1 + x1.heap.size := ⟨_, rfl⟩
 rw [← hg4] at J HG ⊢
 have HG1 := hd0 (show w.heap.size ≤ g4 ∧ w.heap.size ≠ g4 ∧ w.heap.size < g4 + 1 by omega)
 clear hg4
 go_loopw [18, 5] (fun i v wr => ∃ k : Nat, k ≤ l.length ∧ i = .int .i64 k ∧ PathJ w b l w.heap.size g4 gl k v wr) (fun i _ _ => l.length - (intOf i).toNat)
 case atStart => exact ⟨0, by omega, rfl, J⟩
 case round =>
  clear J
  obtain ⟨k, hk, rfl, J⟩ := hrel
  have HJ := hd0 J
  obtain ⟨av, cv, rfl, hv1, hv2, _⟩ := own_shape J.row
  have hv3 : cv ≤ 9223372036854775807 := hv2
  by_cases hlt : k < l.length
  ·have q1 : (0 : Int) ≤ (k : Int) := by omega
   have q2 : (k : Int) < (l.length : Int) := by omega
   obtain ⟨e0, e1⟩ := legCells_get l k hlt
   have c0 := J.legs.cell (k * 2)
   have c1 := J.legs.cell (k * 2 + 1)
   rw [List.getElem?_toArray] at c0 c1
   rw [e0] at c0
   rw [e1] at c1
   have hd := HD.out _ (List.getElem_mem hlt)
   have hw := HW.out _ (List.getElem_mem hlt)
   have hat := atK_succ b.dims hlt
   generalize l[k] = leg at *
   obtain ⟨dim, way⟩ := leg
   simp only at c0 c1 hd hw
   have b4 : wr.cell? ⟨w.heap.size, 4, none⟩ = some b.dv := J.bar.cell 4
   have p0 : wr.cell? ⟨g4, 0, none⟩ = some (.int .i64 (atK b.dims l k).x) := J.point.cell 0
   have p1 : wr.cell? ⟨g4, 1, none⟩ = some (.int .i64 (atK b.dims l k).y) := J.point.cell 1
   have p2 : wr.cell? ⟨g4, 2, none⟩ = some (.int .i64 (atK b.dims l k).z) := J.point.cell 2
   have f0 := J.point.frozen 0
   have f1 := J.point.frozen 1
   have f2 := J.point.frozen 2
   have z1 := J.bar.lt
   have z2 := J.point.lt
   have z3 := J.legs.lt
   obtain ⟨bb, off, ea, cd0⟩ := K4.out dim hd
   rw [HE.out, ea] at b4
   have cd := cell_below' cd0 J.below
   have hn := HM.out _ (List.getElem_mem hd)
   have hgd : b.dims.getD dim 0 = b.dims[dim] := by simp [List.getD, hd]
   have hnr := J.near
   have hgd2 : atK b.dims l (k + 1) = addP b.dims (atK b.dims l k) (dim, way) := hat
   unfold addP at hgd2
   simp only [hgd] at hgd2
   have HAT := hd0 hgd2
   clear hat hgd hgd2 e0 e1 cd0 ea J
   generalize b.dims[dim] = N at *
   have q3 : (0 : Int) ≤ (dim : Int) := by omega
   have q4 : (dim : Int) < (b.dims.length : Int) := by omega
   obtain ⟨P, hP⟩ : ∃ P, atK b.dims l k = P := ⟨_, rfl⟩
   rw [hP] at p0 p1 p2 hnr HAT
   have HP := hd0 hP
   have hk6 : (k : Int) ≤ 5 := by omega
   have hnk : (-1572864 ≤ P.x ∧ P.x ≤ 1572864) ∧ (-1572864 ≤ P.y ∧ P.y ≤ 1572864) ∧ (-1572864 ≤ P.z ∧ P.z ≤ 1572864) := by unfold NearK at hnr; omega
   obtain ⟨⟨x1', x2'⟩, ⟨y1', y2'⟩, z1', z2'⟩ := hnk
   have HNR := hd0 hnr
   clear hP hnr
   rcases hw with rfl | rfl | rfl | rfl | rfl
   ·have hA := HAT.out
    simp only [Int.reduceEq, if_true, if_false] at hA
    have HA := hd0 hA
    clear hA HAT
    go_wp2_with (at_builtin; refine app_own_b rfl _ _ 207 rfl 38 (.agg #[.int .i64 0, .int .i64 0, .int .i64 0]) 3 24 Tryz.underlying207 info_pt rfl (by decide) (g4 + 1) (.slice av (k + 1) cv) (k + 1) (ptCells (ptsK b.dims l k)) _ rfl (((ownsRow_setCell_below HJ.out.row (a := ⟨g4, 0, none⟩) (Nat.lt_succ_self _) _).alloc _).alloc _) _ 1 1 (ptCells [⟨P.x + N, P.y, P.z⟩]) rfl rfl (cells_new ?_ _ _ _ rfl) (ptCells_one _) (by omega) (by decide) ?_ ?_; (first | rfl | simp); (have := HJ.out.point.lt; simp only [World.size_alloc, World.setCell, Array.size_modify]; omega); intro v' w1 hown' hgrow; have HO2 := hd0 hown'; obtain ⟨a', c', rfl, _, hc2, _⟩ := own_shape hown'; have hc3 : c' ≤ 9223372036854775807 := hc2; have HGR := hd0 hgrow; clear hown' hgrow hc2)
    go_roundw
    case rel => exact ⟨k + 1, by omega, by go_num, HJ.out.step HG1.out.1 HG1.out.2.1 HG.out HG1.out.2.2 _ _ _ _ P ⟨P.x + N, P.y, P.z⟩ HP.out rfl HA.out (by have := HNR.out; unfold NearK at this ⊢; simp only; omega) HO2.out HGR.out⟩
    case measure => simp [intOf]; omega
   ·have hA := HAT.out
    simp only [Int.reduceEq, if_true, if_false] at hA
    have HA := hd0 hA
    clear hA HAT
    go_wp2_with (at_builtin; refine app_own_b rfl _ _ 207 rfl 38 (.agg #[.int .i64 0, .int .i64 0, .int .i64 0]) 3 24 Tryz.underlying207 info_pt rfl (by decide) (g4 + 1) (.slice av (k + 1) cv) (k + 1) (ptCells (ptsK b.dims l k)) _ rfl (((ownsRow_setCell_below HJ.out.row (a := ⟨g4, 0, none⟩) (Nat.lt_succ_self _) _).alloc _).alloc _) _ 1 1 (ptCells [⟨P.x - N, P.y, P.z⟩]) rfl rfl (cells_new ?_ _ _ _ rfl) (ptCells_one _) (by omega) (by decide) ?_ ?_; (first | rfl | simp); (have := HJ.out.point.lt; simp only [World.size_alloc, World.setCell, Array.size_modify]; omega); intro v' w1 hown' hgrow; have HO2 := hd0 hown'; obtain ⟨a', c', rfl, _, hc2, _⟩ := own_shape hown'; have hc3 : c' ≤ 9223372036854775807 := hc2; have HGR := hd0 hgrow; clear hown' hgrow hc2)
    go_roundw
    case rel => exact ⟨k + 1, by omega, by go_num, HJ.out.step HG1.out.1 HG1.out.2.1 HG.out HG1.out.2.2 _ _ _ _ P ⟨P.x - N, P.y, P.z⟩ HP.out rfl HA.out (by have := HNR.out; unfold NearK at this ⊢; simp only; omega) HO2.out HGR.out⟩
    case measure => simp [intOf]; omega
   ·have hA := HAT.out
    simp only [Int.reduceEq, if_true, if_false] at hA
    have HA := hd0 hA
    clear hA HAT
    go_wp2_with (at_builtin; refine app_own_b rfl _ _ 207 rfl 38 (.agg #[.int .i64 0, .int .i64 0, .int .i64 0]) 3 24 Tryz.underlying207 info_pt rfl (by decide) (g4 + 1) (.slice av (k + 1) cv) (k + 1) (ptCells (ptsK b.dims l k)) _ rfl (((ownsRow_setCell_below HJ.out.row (a := ⟨g4, 1, none⟩) (Nat.lt_succ_self _) _).alloc _).alloc _) _ 1 1 (ptCells [⟨P.x, P.y + N, P.z⟩]) rfl rfl (cells_new ?_ _ _ _ rfl) (ptCells_one _) (by omega) (by decide) ?_ ?_; (first | rfl | simp); (have := HJ.out.point.lt; simp only [World.size_alloc, World.setCell, Array.size_modify]; omega); intro v' w1 hown' hgrow; have HO2 := hd0 hown'; obtain ⟨a', c', rfl, _, hc2, _⟩ := own_shape hown'; have hc3 : c' ≤ 9223372036854775807 := hc2; have HGR := hd0 hgrow; clear hown' hgrow hc2)
    go_roundw
    case rel => exact ⟨k + 1, by omega, by go_num, HJ.out.step HG1.out.1 HG1.out.2.1 HG.out HG1.out.2.2 _ _ _ _ P ⟨P.x, P.y + N, P.z⟩ HP.out rfl HA.out (by have := HNR.out; unfold NearK at this ⊢; simp only; omega) HO2.out HGR.out⟩
    case measure => simp [intOf]; omega
   ·have hA := HAT.out
    simp only [Int.reduceEq, if_true, if_false] at hA
    have HA := hd0 hA
    clear hA HAT
    go_wp2_with (at_builtin; refine app_own_b rfl _ _ 207 rfl 38 (.agg #[.int .i64 0, .int .i64 0, .int .i64 0]) 3 24 Tryz.underlying207 info_pt rfl (by decide) (g4 + 1) (.slice av (k + 1) cv) (k + 1) (ptCells (ptsK b.dims l k)) _ rfl (((ownsRow_setCell_below HJ.out.row (a := ⟨g4, 1, none⟩) (Nat.lt_succ_self _) _).alloc _).alloc _) _ 1 1 (ptCells [⟨P.x, P.y - N, P.z⟩]) rfl rfl (cells_new ?_ _ _ _ rfl) (ptCells_one _) (by omega) (by decide) ?_ ?_; (first | rfl | simp); (have := HJ.out.point.lt; simp only [World.size_alloc, World.setCell, Array.size_modify]; omega); intro v' w1 hown' hgrow; have HO2 := hd0 hown'; obtain ⟨a', c', rfl, _, hc2, _⟩ := own_shape hown'; have hc3 : c' ≤ 9223372036854775807 := hc2; have HGR := hd0 hgrow; clear hown' hgrow hc2)
    go_roundw
    case rel => exact ⟨k + 1, by omega, by go_num, HJ.out.step HG1.out.1 HG1.out.2.1 HG.out HG1.out.2.2 _ _ _ _ P ⟨P.x, P.y - N, P.z⟩ HP.out rfl HA.out (by have := HNR.out; unfold NearK at this ⊢; simp only; omega) HO2.out HGR.out⟩
    case measure => simp [intOf]; omega
   ·have hA := HAT.out
    simp only [Int.reduceEq, if_false] at hA
    have HA := hd0 hA
    clear hA HAT
    go_wp2_with (at_builtin; refine app_own_b rfl _ _ 207 rfl 38 (.agg #[.int .i64 0, .int .i64 0, .int .i64 0]) 3 24 Tryz.underlying207 info_pt rfl (by decide) (g4 + 1) (.slice av (k + 1) cv) (k + 1) (ptCells (ptsK b.dims l k)) _ rfl (((ownsRow_setCell_below HJ.out.row (a := ⟨g4, 2, none⟩) (Nat.lt_succ_self _) _).alloc _).alloc _) _ 1 1 (ptCells [⟨P.x, P.y, P.z + N⟩]) rfl rfl (cells_new ?_ _ _ _ rfl) (ptCells_one _) (by omega) (by decide) ?_ ?_; (first | rfl | simp); (have := HJ.out.point.lt; simp only [World.size_alloc, World.setCell, Array.size_modify]; omega); intro v' w1 hown' hgrow; have HO2 := hd0 hown'; obtain ⟨a', c', rfl, _, hc2, _⟩ := own_shape hown'; have hc3 : c' ≤ 9223372036854775807 := hc2; have HGR := hd0 hgrow; clear hown' hgrow hc2)
    go_roundw
    case rel => exact ⟨k + 1, by omega, by go_num, HJ.out.step HG1.out.1 HG1.out.2.1 HG.out HG1.out.2.2 _ _ _ _ P ⟨P.x, P.y, P.z + N⟩ HP.out rfl HA.out (by have := HNR.out; unfold NearK at this ⊢; simp only; omega) HO2.out HGR.out⟩
    case measure => simp [intOf]; omega
  ·obtain rfl : k = l.length := by omega
   have hown := HJ.out.row
   clear J
   go_wp2
   refine bodyPost_ret (v := .tuple #[.slice av (l.length + 1) cv, .int .i64 0]) (by simp [results, Tryz.results183, go_sem]) rfl ?_
   exact ⟨_, rfl, by rw [ptsK_length]; exact own_mono HJ.out.row (by have := HG1.out.1; omega), ext_of HJ.out.below⟩


theorem near_take_succ {l : List Pt} {m : Int} {k : Nat} (h : k < l.length) (h1 : ∀ j (_ : j < k) (h' : j < l.length), nearB l[j] m = true) (h2 : nearB l[k] m = true) : ∀ j (_ : j < k + 1) (h' : j < l.length), nearB l[j] m = true := by
 intro j hj h'
 rcases Nat.lt_or_ge j k with q | q
 ·exact h1 j q h'
 ·obtain rfl : j = k := by omega
  exact h2
theorem all_near_true {l : List Pt} {m : Int} (h : ∀ j (hj : j < l.length), nearB l[j] m = true) : (l.all fun p => nearB p m) = true := by
 rw [List.all_eq_true]
 intro p hp
 obtain ⟨j, hj, rfl⟩ := List.getElem_of_mem hp
 exact h j hj
theorem all_near_false {l : List Pt} {m : Int} {k : Nat} (hk : k < l.length) (h : nearB l[k] m = false) : (l.all fun p => nearB p m) = false := by
 rw [List.all_eq_false]
 exact ⟨_, List.getElem_mem hk, by rw [h]; exact Bool.false_ne_true⟩

set_option maxRecDepth 100000 in
set_option maxHeartbeats 2000000 in
theorem near_v (l : List Pt) (v : Value) (r : Bool) (h : (l.all fun p => nearB p 1048576) = r) (w : World) (hl : Pts w v l) : Calls Tryz.prog 229 #[v] w (Ret w (.bool r)) := by
 obtain ⟨a, cap, rfl, h2, h3, h4⟩ := hl
 have H4 := hd0 h4
 have HR := hd0 h
 clear h4 h
 go_enter Tryz.func229, Tryz.ntmps229
 go_wp2_with fail
 go_loopw [9] (fun i wr => ∃ k : Nat, k ≤ l.length ∧ i = .int .i64 k ∧ (∃ x, wr = ext w x) ∧ ∀ j (h : j < k) (h' : j < l.length), nearB l[j] 1048576 = true) (fun i _ => l.length - (intOf i).toNat)
 case atStart => exact ⟨0, by omega, rfl, ext_of (Below.refl _ _), fun j h => by omega⟩
 case round =>
  obtain ⟨k, hk, rfl, ⟨x, rfl⟩, hno⟩ := hrel
  have HNO := hd0 hno
  clear hno
  by_cases hlt : k < l.length
  ·obtain ⟨b, off, rfl, c0, c1, c2⟩ := H4.out k hlt
   have c0 := cell_ext_some c0 x
   have c1 := cell_ext_some c1 x
   have c2 := cell_ext_some c2 x
   have q1 : (0 : Int) ≤ (k : Int) := by omega
   have q2 : (k : Int) < (l.length : Int) := by omega
   obtain ⟨p, hp⟩ : ∃ p, p = l[k] := ⟨_, rfl⟩
   rw [← hp] at c0 c1 c2
   have HP := hd0 hp
   clear hp
   go_wp2_with fail
   clear c0 c1 c2
   refine wp_loop_rounds 4 ?_
   rw [rounds_succ]
   by_cases hx : -1048576 ≤ p.x ∧ p.x ≤ 1048576
   ·obtain ⟨hx1, hx2⟩ := hx
    go_wp2_with fail
    rw [rounds_succ]
    by_cases hy : -1048576 ≤ p.y ∧ p.y ≤ 1048576
    ·obtain ⟨hy1, hy2⟩ := hy
     go_wp2_with fail
     rw [rounds_succ]
     by_cases hz : -1048576 ≤ p.z ∧ p.z ≤ 1048576
     ·obtain ⟨hz1, hz2⟩ := hz
      have HK := hd0 (near_take_succ (m := 1048576) hlt HNO.out (by rw [← HP.out]; exact near_iff.2 ⟨⟨hx1, hx2⟩, ⟨hy1, hy2⟩, hz1, hz2⟩))
      go_wp2_with fail
      rw [rounds_succ]
      go_wp2
      go_roundw
      case rel => exact ⟨k + 1, by omega, by go_num, ext_of gro, HK.out⟩
      case measure => simp [intOf]; omega
     ·obtain rfl : false = r := by rw [← HR.out]; exact (all_near_false hlt (by rw [← HP.out, Bool.eq_false_iff]; exact fun q => hz (near_iff.1 q).2.2)).symm
      by_cases hz1 : p.z < -1048576
      ·clear hz
       go_wp2
       go_ret
       exact Ret.of gro
      ·have hz2 : 1048576 < p.z := by omega
       clear hz
       go_wp2
       go_ret
       exact Ret.of gro
    ·obtain rfl : false = r := by rw [← HR.out]; exact (all_near_false hlt (by rw [← HP.out, Bool.eq_false_iff]; exact fun q => hy (near_iff.1 q).2.1)).symm
     by_cases hy1 : p.y < -1048576
     ·clear hy
      go_wp2
      go_ret
      exact Ret.of gro
     ·have hy2 : 1048576 < p.y := by omega
      clear hy
      go_wp2
      go_ret
      exact Ret.of gro
   ·obtain rfl : false = r := by rw [← HR.out]; exact (all_near_false hlt (by rw [← HP.out, Bool.eq_false_iff]; exact fun q => hx (near_iff.1 q).1)).symm
    by_cases hx1 : p.x < -1048576
    ·clear hx
     go_wp2
     go_ret
     exact Ret.of gro
    ·have hx2 : 1048576 < p.x := by omega
     clear hx
     go_wp2
     go_ret
     exact Ret.of gro
  ·obtain rfl : k = l.length := by omega
   obtain rfl : true = r := by rw [← HR.out]; exact (all_near_true fun j hj => HNO.out j hj hj).symm
   go_wp2
   go_ret
   exact Ret.of gro

set_option maxHeartbeats 4000000
set_option maxRecDepth 100000

structure FPathJ (w : World) (tx ty : Int) (l : List Pt) (g3 g4 base k : Nat) (v : Value) (wr : World) : Prop where
 below : Below w.heap.size w wr
 turn : Blk wr g3 #[.int .i64 tx, .int .i64 ty] 116
 at0 : Blk wr g4 #[.int .i64 0, .int .i64 0, .int .i64 0] 38
 row : wr.ownsRow base 38 3 v k (ptCells ((l.take k).map (imgP tx ty)))
theorem FPathJ.step {w : World} {tx ty : Int} {l : List Pt} {g3 g4 base k : Nat} {v : Value} {wr : World} (h : FPathJ w tx ty l g3 g4 base k v wr) (h3 : g3 < base) (h4 : g4 < base) (hb : w.heap.size ≤ base) (o : Obj) (y : World) (o2 : Obj)
  (hk : k < l.length) (p : Pt) (hp : l[k] = p) {v' : Value} {w' : World} (hown : w'.ownsRow base 38 3 v' (k + 1) (ptCells ((l.take k).map (imgP tx ty)) ++ ptCells [imgP tx ty p])) (hg : ((ext (wr.alloc o) y).alloc o2).grownBy w' v.ownBlock) : FPathJ w tx ty l g3 g4 base (k + 1) v' w' := by
 have s1 : w.heap.size ≤ wr.heap.size := h.below.size
 have hrow : ∀ k, v.ownBlock = some k → w.heap.size ≤ k := fun k e => by have := (h.row.lt k e).1; omega
 have r4 : some g4 ≠ v.ownBlock := own_base_ne h.row h4
 have r3 : some g3 ≠ v.ownBlock := own_base_ne h.row h3
 subst hp
 refine ⟨?_, (((h.turn.alloc o).ext y).alloc o2).grown hg r3, (((h.at0.alloc o).ext y).alloc o2).grown hg r4, ?_⟩
 ·have h1 : Below w.heap.size w ((ext (wr.alloc o) y).alloc o2) := (grow_alloc _ (grow_ext _ (h.below.alloc s1 _)))
  exact h1.grown hg (by simp only [World.size_alloc, size_ext]; omega) hrow
 ·rw [List.take_succ_eq_append_getElem hk, List.map_append, ptCells_append]; exact hown

theorem framePath_c (tx ty : Int) (l : List Pt) (v : Value) (h : turnB tx ty = true) (hn : ∀ p ∈ l, NearP p 1048576) (hlen : l.length ≤ 1000) (w : World) (hl : Pts w v l) :
  Calls Tryz.prog 184 #[.agg #[.int .i64 tx, .int .i64 ty], .agg #[.int .i64 0, .int .i64 0, .int .i64 0], v] w (fun e W => ∃ v', e = .returned (.tuple #[v', .int .i64 0]) ∧ W.ownsRow w.heap.size 38 3 v' (l.map (imgP tx ty)).length (ptCells (l.map (imgP tx ty))) ∧ ∃ x, W = ext w x) := by
 have HV := hd0 (fun w => frameValid_v tx ty true h w)
 have HN := hd0 (fun w hl => near_v l v true (by rw [List.all_eq_true]; exact fun p hp => near_iff.2 (hn p hp)) w hl)
 have HZ := hd0 (fun v w hl => near_v [⟨0, 0, 0⟩] v true (by decide) w hl)
 have HP := hd0 (fun p hp w => placed_c tx ty p h (hn p hp) w)
 have HL := hd0 hl
 obtain ⟨a, cap, rfl, h2, h3, h4⟩ := hl.shape
 have H4 := hd0 h4
 clear h hn hl h4
 have d1 : decide ((1000 : Int) < (l.length : Int)) = false := by simp; omega
 go_enter Tryz.func184, Tryz.ntmps184
 go_wp2_with fail
 go_at_call 192; refine (HV.out _).mono ?_; rintro e w' ⟨rfl, x1, rfl⟩
 go_wp2_with fail
 go_at_call 229; refine (HZ.out _ _ ?_).mono ?_
 ·refine ⟨_, 1, rfl, by simp, by decide, fun i hi => ?_⟩
  obtain rfl : i = 0 := by simp at hi; omega
  refine ⟨_, 0, rfl, ?_, ?_, ?_⟩ <;> simp [go_sem]
 rintro e w' ⟨rfl, x2, rfl⟩
 go_wp2_with fail
 go_at_call 229; refine (HN.out _ (HL.out.below gro)).mono ?_; rintro e w' ⟨rfl, x3, rfl⟩
 go_wp2_with fail
 refine world_mask (fun W => FPathJ w tx ty l w.heap.size (w.heap.size + 1) (w.heap.size + 2) 0 (.slice none 0 0) W ∧ w.heap.size + 2 ≤ W.heap.size) _ ⟨⟨gro, ?_, ?_, World.ownsRow_nil _ _ _ _⟩, ?_⟩ ?_
 ·exact Blk.ext (Blk.ext (Blk.alloc (Blk.ext (Blk.alloc (Blk.new' rfl _ _) _) _) _) _) _
 ·exact Blk.ext (Blk.ext (Blk.alloc (Blk.ext (Blk.new' (by simp) _ _) _) _) _) _
 ·simp only [size_ext, World.size_alloc]; omega
 rintro W1 ⟨J0, hW1⟩
 go_loopw [8, 31] (fun v i wr => ∃ k : Nat, k ≤ l.length ∧ i = .int .i64 k ∧ FPathJ w tx ty l w.heap.size (w.heap.size + 1) (w.heap.size + 2) k v wr ∧ w.heap.size + 2 ≤ wr.heap.size) (fun _ i _ => l.length - (intOf i).toNat)
 case atStart => exact ⟨0, by omega, rfl, J0, hW1⟩
 case round =>
  clear J0 hW1
  obtain ⟨k, hk, rfl, J, hsz⟩ := hrel
  have HJ := hd0 J
  have HSZ := hd0 hsz
  obtain ⟨av, cv, rfl, hv1, hv2, _⟩ := own_shape J.row
  have hv3 : cv ≤ 9223372036854775807 := hv2
  by_cases hlt : k < l.length
  ·have q1 : (0 : Int) ≤ (k : Int) := by omega
   have q2 : (k : Int) < (l.length : Int) := by omega
   obtain ⟨b, off, ea, hpt⟩ := H4.out k hlt
   obtain ⟨y, ey⟩ := ext_of J.below
   have hpt2 := hpt.ext y
   rw [← ey] at hpt2
   obtain ⟨c0, c1, c2⟩ := hpt2
   subst ea
   have hc := fun w => HP.out _ (List.getElem_mem hlt) w
   obtain ⟨p, hp⟩ : ∃ p, l[k] = p := ⟨_, rfl⟩
   rw [hp] at c0 c1 c2 hc
   have HC := hd0 hc
   have HPK := hd0 hp
   have t0 : wr.cell? ⟨w.heap.size, 0, none⟩ = some (.int .i64 tx) := J.turn.cell 0
   have t1 : wr.cell? ⟨w.heap.size, 1, none⟩ = some (.int .i64 ty) := J.turn.cell 1
   have a0 : wr.cell? ⟨w.heap.size + 1, 0, none⟩ = some (.int .i64 0) := J.at0.cell 0
   have a1 : wr.cell? ⟨w.heap.size + 1, 1, none⟩ = some (.int .i64 0) := J.at0.cell 1
   have a2 : wr.cell? ⟨w.heap.size + 1, 2, none⟩ = some (.int .i64 0) := J.at0.cell 2
   clear J hpt ey hc hp
   obtain ⟨I, hI⟩ : ∃ I, imgP tx ty p = I := ⟨_, rfl⟩
   rw [hI] at HC
   have HI := hd0 hI
   clear hI
   go_wp2_with fail
   go_at_call 230; refine (HC.out _).mono ?_; rintro e w' ⟨rfl, y2, rfl⟩
   go_wp2_with (at_builtin; refine app_own_b rfl _ _ 207 rfl 38 (.agg #[.int .i64 0, .int .i64 0, .int .i64 0]) 3 24 Tryz.underlying207 info_pt rfl (by decide) (w.heap.size + 2) (.slice av k cv) (k) (ptCells ((l.take k).map (imgP tx ty))) _ rfl ((own_ext (HJ.out.row.alloc _) _).alloc _) _ 1 1 (ptCells [I]) rfl rfl (cells_new ?_ _ _ _ rfl) (ptCells_one _) (by omega) (by decide) ?_ ?_; (first | rfl | simp [size_ext]); (have := HSZ.out; simp only [World.size_alloc, size_ext]; omega); intro v' w1 hown' hgrow; have HO2 := hd0 hown'; obtain ⟨a', c', rfl, _, hc2, -⟩ := own_shape hown'; have hc3 : c' ≤ 9223372036854775807 := hc2; have HGR := hd0 hgrow; clear hown' hgrow hc2)
   go_roundw
   case rel => exact ⟨k + 1, by omega, by go_num, HJ.out.step (by omega) (by omega) (by omega) _ _ _ hlt p HPK.out (by rw [HI.out]; exact HO2.out) HGR.out, by have := HGR.out.size; have := HSZ.out; simp only [World.size_alloc, size_ext] at *; omega⟩
   case measure => simp [intOf]; omega
  ·obtain rfl : k = l.length := by omega
   clear J
   go_wp2
   go_ret2
   exact ⟨_, rfl, by have := HJ.out.row; rw [List.take_length] at this; rw [List.length_map]; exact own_mono this (by omega), ext_of HJ.out.below⟩

theorem find1_c (b : Br) (m : ByteArray) (g : Nat) (w : World) (hg : w.cell? ⟨g, 0, none⟩ = some (.string m)) : Calls Tryz.prog 236 #[(.agg #[.string b.mark, .int .i64 b.size, .int .i64 b.count, .int .i64 b.code, b.dv]), .pointer (some ⟨g, 0, none⟩)] w (Ret w (.bool (b.mark.toList == m.toList))) := by
 go_enter Tryz.func236, Tryz.ntmps236
 go_wp2
 go_ret
 exact Ret.of gro
theorem enters_find1 : Enters 236 := enters_of Tryz.func236 (by decide) (by simp [Tryz.f236])
theorem find_c (l : List Br) (v : Value) (m : ByteArray) (w : World) (hl : Bars w v l) : Calls Tryz.prog 191 #[v, .string m] w (Ret w (.int .i64 (findI l m))) := by
 have HL := hd0 hl
 have HX := hd0 (fun F hE caps w hl hf => indexBar_c F hE caps m l v w hl hf)
 have HC := hd0 (show ∀ (b : Br) (x : World), b ∈ l → Calls Tryz.prog 236 (#[(.agg #[.string b.mark, .int .i64 b.size, .int .i64 b.count, .int .i64 b.code, b.dv])] ++ #[.pointer (some ⟨w.heap.size, 0, none⟩)]) (ext (w.alloc (.cells #[.string m] 9)) x) (Ret (ext (w.alloc (.cells #[.string m] 9)) x) (.bool (b.mark.toList == m.toList))) from
  fun b x _ => find1_c b m w.heap.size _ (by simp [go_sem]))
 clear hl
 generalize findI l m = k at *
 go_enter Tryz.func191, Tryz.ntmps191
 go_wp2_with fail
 go_at_call 66; refine (HX.out _ enters_find1 _ _ (HL.out.below gro) HC.out).mono ?_; rintro e w' ⟨rfl, x1, rfl⟩
 go_wp2
 go_ret
 exact Ret.of gro

def turnedL (b : Br) (r : Rn) : List Pt := (pathL b).map (imgP r.tx r.ty)
theorem path_len (b : Br) : 1 ≤ (pathL b).length ∧ (pathL b).length ≤ 7 := by
 unfold pathL
 rw [ptsK_length]
 have := (legs_way b.code).1
 omega

theorem turned_c (l : List Br) (v : Value) (r : Rn) (hk : 0 ≤ findI l r.mark) (hs : shapeB (barOf l r.mark) = true) (ht : turnB r.tx r.ty = true) (w : World) (hl : Bars w v l) :
  Calls Tryz.prog 194 #[v, (.agg #[.string r.mark, .int .i64 r.tx, .int .i64 r.ty, .int .i64 r.ax, .int .i64 r.ay, .int .i64 r.az, .int .i64 r.sx, .int .i64 r.sy, .int .i64 r.sz, .int .i64 r.count])] w (fun e W => ∃ v', e = .returned v' ∧ W.ownsRow w.heap.size 38 3 v' (turnedL (barOf l r.mark) r).length (ptCells (turnedL (barOf l r.mark) r)) ∧ ∃ x, W = ext w x) := by
 have HF := hd0 (fun w hl => find_c l v r.mark w hl)
 have HL := hd0 hl
 obtain ⟨a, cap, rfl, h2, h3, h4⟩ := hl.shape
 rcases findI_cases l r.mark with ⟨e, _⟩ | ⟨k, hkl, e, _, _⟩
 ·rw [e] at hk; exact absurd hk (by decide)
 have hb : barOf l r.mark = l[k] := by unfold barOf; rw [e]; simp [hkl]
 obtain ⟨hok, b0, off, ea, hbr⟩ := h4 k hkl
 rw [hb] at hs ⊢
 rw [e] at HF
 generalize l[k] = b at *
 have HP := hd0 (fun w hb => path_ok b hs w hb)
 have HT := hd0 (fun v w hl => framePath_c r.tx r.ty (pathL b) v ht (path_near hs) (by have := (path_len b).2; omega) w hl)
 have HOK := hd0 hok
 have HBR := hd0 hbr
 have q1 : (0 : Int) ≤ (k : Int) := by omega
 have q2 : (k : Int) < (l.length : Int) := by omega
 have HTL := hd0 (show turnedL b r = (pathL b).map (imgP r.tx r.ty) from rfl)
 subst ea
 clear hk hs ht hl h4 e hb hok hbr
 go_enter Tryz.func194, Tryz.ntmps194
 go_wp2_with fail
 go_at_call 191; refine (HF.out _ (HL.out.below gro)).mono ?_; rintro e w' ⟨rfl, x1, rfl⟩
 obtain ⟨c0, c1, c2, c3, c4⟩ := HBR.out
 go_wp2_with fail
 clear c0 c1 c2 c3 c4
 go_at_call 183; refine (HP.out _ (HOK.out.below gro)).mono ?_; rintro e w' ⟨v2, rfl, hown, x2, rfl⟩
 have HOW := hd0 hown
 clear hown
 go_wp2_with fail
 go_at_call 184; refine (HT.out _ _ (Pts.of_own HOW.out)).mono ?_; rintro e w' ⟨v3, rfl, hown, x3, rfl⟩
 have HO3 := hd0 hown
 clear hown
 go_wp2
 go_ret
 exact ⟨_, rfl, by rw [HTL.out]; exact own_mono HO3.out (by simp only [size_ext, World.size_alloc]; omega), ext_of gro⟩

set_option maxHeartbeats 1000000

theorem mul_range {k s m b : Int} (hk : 0 ≤ k ∧ k ≤ m) (hs : -b ≤ s ∧ s ≤ b) : -(m * b) ≤ k * s ∧ k * s ≤ m * b := by
 have hb : 0 ≤ b := by omega
 have h1 : k * s ≤ k * b := Int.mul_le_mul_of_nonneg_left hs.2 hk.1
 have h2 : k * b ≤ m * b := Int.mul_le_mul_of_nonneg_right hk.2 hb
 have h3 : k * (-b) ≤ k * s := Int.mul_le_mul_of_nonneg_left hs.1 hk.1
 rw [Int.mul_neg] at h3
 omega
def plusP (p s : Pt) (k : Int) : Pt := ⟨p.x + k * s.x, p.y + k * s.y, p.z + k * s.z⟩

theorem plus_c (p s : Pt) (k : Int) (hp : NearP p 8388608) (hs : NearP s 2097152) (hk : 0 ≤ k ∧ k ≤ 2000) (w : World) : Calls Tryz.prog 195 #[(.agg #[.int .i64 p.x, .int .i64 p.y, .int .i64 p.z]), (.agg #[.int .i64 s.x, .int .i64 s.y, .int .i64 s.z]), .int .i64 k] w (Ret w (.agg #[.int .i64 (plusP p s k).x, .int .i64 (plusP p s k).y, .int .i64 (plusP p s k).z])) := by
 obtain ⟨p1, p2, p3⟩ := hp
 obtain ⟨s1, s2, s3⟩ := hs
 have m1 := mul_range hk s1
 have m2 := mul_range hk s2
 have m3 := mul_range hk s3
 obtain ⟨c1, hc1⟩ : ∃ c, k * s.x = c := ⟨_, rfl⟩
 obtain ⟨c2, hc2⟩ : ∃ c, k * s.y = c := ⟨_, rfl⟩
 obtain ⟨c3, hc3⟩ : ∃ c, k * s.z = c := ⟨_, rfl⟩
 have v1 : wrap64 (k * s.x) = c1 := by rw [← hc1]; exact IntWalk.wrap64_in _ (by omega)
 have v2 : wrap64 (k * s.y) = c2 := by rw [← hc2]; exact IntWalk.wrap64_in _ (by omega)
 have v3 : wrap64 (k * s.z) = c3 := by rw [← hc3]; exact IntWalk.wrap64_in _ (by omega)
 rw [hc1] at m1
 rw [hc2] at m2
 rw [hc3] at m3
 have HE := hd0 (show plusP p s k = ⟨p.x + c1, p.y + c2, p.z + c3⟩ by unfold plusP; rw [hc1, hc2, hc3])
 clear hc1 hc2 hc3 s1 s2 s3 hk
 go_enter Tryz.func195, Tryz.ntmps195
 go_wp2
 rw [HE.out]
 refine bodyPost_ret (v := (.agg #[.int .i64 (⟨p.x + c1, p.y + c2, p.z + c3⟩ : Pt).x, .int .i64 (⟨p.x + c1, p.y + c2, p.z + c3⟩ : Pt).y, .int .i64 (⟨p.x + c1, p.y + c2, p.z + c3⟩ : Pt).z])) (by simp [results, Tryz.results195, go_sem]) rfl ?_
 exact Ret.of gro

theorem isPlace_v (p : Pt) (m : Int) (r : Bool) (h : nearB p m = r) (hm : 0 ≤ m ∧ m ≤ 9000000) (w : World) : Calls Tryz.prog 193 #[(.agg #[.int .i64 p.x, .int .i64 p.y, .int .i64 p.z]), .int .i64 m] w (Ret w (.bool r)) := by
 by_cases h1 : -m ≤ min p.x (min p.y p.z)
 ·have HR := hd0 (show decide (max p.x (max p.y p.z) ≤ m) = r by
   rw [← h, Bool.eq_iff_iff, near_iff, decide_eq_true_iff]; unfold NearP; omega)
  clear h
  go_enter Tryz.func193, Tryz.ntmps193
  go_wp2
  go_ret
  rw [HR.out]
  exact Ret.of gro
 ·have HR := hd0 (show false = r by
   rw [← h]; symm; rw [Bool.eq_false_iff]; intro q; rw [near_iff] at q; unfold NearP at q; omega)
  clear h
  go_enter Tryz.func193, Tryz.ntmps193
  go_wp2
  go_ret
  rw [← HR.out]
  exact Ret.of gro

end Go.Proofs.YtkjljneehgmmaaaGreat



/- The path of a bar: shape.Path. -/
import Derived.Test.YtmhhohancconaaaGreatLaidK0
import Derived.Test.YtmhhohancconaaaGreatExtK
import Derived.Deep.DeepCutAuto
namespace Go.Proofs.YtmhhohancconaaaGreat
open Go.RowKit
set_option maxRecDepth 20000

/-- A round's bounds. -/
def NearK (p : Pt) (k : Nat) : Prop := (-(262144 * (k : Int)) ≤ p.x ∧ p.x ≤ 262144 * (k : Int)) ∧ (-(262144 * (k : Int)) ≤ p.y ∧ p.y ≤ 262144 * (k : Int)) ∧ -(262144 * (k : Int)) ≤ p.z ∧ p.z ≤ 262144 * (k : Int)
/-- What holds before each round of shape.Path. -/
structure PathJ (w : World) (b : Br) (l : List (Nat × Int)) (g1 g4 gl : Nat) (k : Nat) (v : Value) (wr : World) : Prop where
  below : Below w.heap.size w wr
  bar : Blk wr g1 #[.string b.mark, .int .i64 b.size, .int .i64 b.count, .int .i64 b.code, b.dv] 51
  point : Blk wr g4 #[.int .i64 (atK b.dims l k).x, .int .i64 (atK b.dims l k).y, .int .i64 (atK b.dims l k).z] 54
  legs : Blk wr gl (legCells l).toArray 187
  row : wr.ownsRow (g4 + 1) 54 3 v (k + 1) (ptCells (ptsK b.dims l k))
  near : NearK (atK b.dims l k) k

theorem cell_below' {w w' : World} {a : Addr} {v : Value} (h : w.cell? a = some v) (hb : Below w.heap.size w w') : w'.cell? a = some v := by
  obtain ⟨y, rfl⟩ := ext_of hb
  exact cell_ext_some h y
/-- A round keeps what it should: a leg's copy is made, a coordinate is set, a row is appended to. -/
theorem PathJ.step {w : World} {b : Br} {l : List (Nat × Int)} {g1 g4 gl k : Nat} {v : Value} {wr : World} (h : PathJ w b l g1 g4 gl k v wr) (h1 : w.heap.size ≤ g4) (h14 : g1 ≠ g4) (h4l : gl ≠ g4) (h1w : g1 < g4 + 1) (o : Obj) (i : Nat) (u : Value) (o2 : Obj)
    (P0 P : Pt) (hP0 : atK b.dims l k = P0) (hP : (#[Value.int .i64 P0.x, .int .i64 P0.y, .int .i64 P0.z] : Array Value).setIfInBounds i u = #[.int .i64 P.x, .int .i64 P.y, .int .i64 P.z]) (hat : atK b.dims l (k + 1) = P) (hn : NearK P (k + 1)) {v' : Value} {w' : World}
    (hown : w'.ownsRow (g4 + 1) 54 3 v' (k + 1 + 1) (ptCells (ptsK b.dims l k) ++ ptCells [P])) (hg : ((((wr.setCell ⟨g4, i, none⟩ u).alloc o).alloc o2).grownBy w' v.ownBlock)) : PathJ w b l g1 g4 gl (k + 1) v' w' := by
  have s1 : w.heap.size ≤ wr.heap.size := h.below.size
  have hrow : ∀ k, v.ownBlock = some k → w.heap.size ≤ k := fun k e => by have := (h.row.lt k e).1; omega
  have r4 : some g4 ≠ v.ownBlock := own_base_ne h.row (Nat.lt_succ_self _)
  have r1 : some g1 ≠ v.ownBlock := own_base_ne h.row h1w
  have rl : some gl ≠ v.ownBlock := h.legs.ne_row h.row (by decide)
  subst hP0
  refine ⟨?_, ?_, ?_, ?_, ?_, by rw [hat]; exact hn⟩
  · have hb : Below w.heap.size w (((wr.setCell ⟨g4, i, none⟩ u).alloc o).alloc o2) := ((h.below.setCell (p := ⟨g4, i, none⟩) h1 u).alloc (by simp only [World.setCell, Array.size_modify]; omega) _).alloc (by simp only [World.setCell, Array.size_modify, World.size_alloc]; omega) _
    exact hb.grown hg (by simp only [World.size_alloc, World.setCell, Array.size_modify]; omega) hrow
  · exact (((h.bar.other (a := ⟨g4, i, none⟩) h14 u).alloc o).alloc o2).grown hg r1
  · have := (((h.point.set i u).alloc o).alloc o2).grown hg r4
    rw [hP] at this
    rw [hat]; exact this
  · exact (((h.legs.other (a := ⟨g4, i, none⟩) h4l u).alloc o).alloc o2).grown hg rl
  · rw [ptsK_succ, ptCells_append, hat]; exact hown

set_option maxRecDepth 100000 in
set_option maxHeartbeats 4000000 in
theorem path_ok (b : Br) (h : shapeB b = true) (w : World) (hb : BrOk w b) :
    Calls Tryz.prog 107 #[(.agg #[.string b.mark, .int .i64 b.size, .int .i64 b.count, .int .i64 b.code, b.dv])] w (fun e W => ∃ v, e = .returned (.tuple #[v, .int .i64 0]) ∧ W.ownsRow w.heap.size 54 3 v (pathL b).length (ptCells (pathL b)) ∧ ∃ x, W = ext w x) := by
  have HV := Lib.hid (fun w hb => shapeValid_v b true h w hb)
  have HK := Lib.hid hb
  have hne : legsC b.code ≠ [] := by
    intro e
    have := (shape_facts h).1
    unfold dimsR at this
    rw [e] at this
    exact absurd this (by decide)
  have HL := Lib.hid (fun w => legs_b b.code hne w)
  have HD := Lib.hid (legs_dims h)
  have HW := Lib.hid (legs_way b.code).2
  have HM := Lib.hid (restB_mem (shape_facts h).2.2.2.2.2)
  obtain ⟨ad, cap, ev, k2, k3, k4⟩ := hb.dims
  have K4 := Lib.hid k4
  have hlen := (legs_way b.code).1
  have hpl : pathL b = ptsK b.dims (legsC b.code) (legsC b.code).length := rfl
  obtain ⟨l, hl⟩ : ∃ l, legsC b.code = l := ⟨_, rfl⟩
  rw [hl] at HL HD HW hlen hpl
  rw [hpl]
  have HE := Lib.hid ev
  clear hb h hne k4 hl hpl ev
  go_enter Tryz.func107, Tryz.ntmps107
  go_wp2_with fail
  go_at_call 77; refine (HV.out _ (HK.out.below (by (repeat (first | exact grow_refl _ | refine grow_ext _ ?_ | refine grow_alloc _ ?_ | refine grow_drew ?_))))).mono ?_; rintro e w' ⟨rfl, x1, rfl⟩
  go_wp2_with fail
  go_at_call 117; refine (HL.out _).mono ?_; rintro e w' ⟨gl, rfl, hL, hgl, x2, rfl⟩
  have J : PathJ w b l w.heap.size (w.heap.size + 1 + x1.heap.size) gl 0 (.slice (some ⟨w.heap.size + 1 + x1.heap.size + 1, 0, none⟩) 1 1) _ := ⟨by (repeat (first | exact grow_refl _ | refine grow_ext _ ?_ | refine grow_alloc _ ?_ | refine grow_drew ?_)),
    Blk.ext (Blk.alloc (Blk.alloc (Blk.ext (Blk.new' rfl _ _) _) _) _) _, Blk.ext (Blk.alloc (Blk.new' (by simp [size_ext]) _ _) _) _, hL, own_ext (own_lit (base := w.heap.size + 1 + x1.heap.size + 1) _ _ _ _ _ (by simp [size_ext]) (by simp [size_ext]) (by decide) rfl rfl) _, by rw [show atK b.dims l 0 = ⟨0, 0, 0⟩ from rfl]; unfold NearK; simp⟩
  have hgl2 : gl ≠ w.heap.size + 1 + x1.heap.size := by simp only [World.size_alloc, size_ext] at hgl; omega
  have HG := Lib.hid hgl2
  clear hL hgl hgl2
  go_wp2_with fail
  refine world_mask (fun W => PathJ w b l w.heap.size (w.heap.size + 1 + x1.heap.size) gl 0 (.slice (some ⟨w.heap.size + 1 + x1.heap.size + 1, 0, none⟩) 1 1) W) _ J ?_
  clear J
  rintro W1 J
  obtain ⟨g4, hg4⟩ : ∃ g4, g4 = w.heap.size + 1 + x1.heap.size := ⟨_, rfl⟩
  rw [← hg4] at J HG ⊢
  have HG1 := Lib.hid (show w.heap.size ≤ g4 ∧ w.heap.size ≠ g4 ∧ w.heap.size < g4 + 1 by omega)
  clear hg4
  go_loopw [18, 5] (fun i v wr => ∃ k : Nat, k ≤ l.length ∧ i = .int .i64 k ∧ PathJ w b l w.heap.size g4 gl k v wr) (fun i _ _ => l.length - (intOf i).toNat)
  case atStart => exact ⟨0, by omega, rfl, J⟩
  case round =>
    clear J
    obtain ⟨k, hk, rfl, J⟩ := hrel
    have HJ := Lib.hid J
    obtain ⟨av, cv, rfl, hv1, hv2, _⟩ := own_shape J.row
    have hv3 : cv ≤ 9223372036854775807 := hv2
    by_cases hlt : k < l.length
    · have q1 : (0 : Int) ≤ (k : Int) := by omega
      have q2 : (k : Int) < (l.length : Int) := by omega
      obtain ⟨e0, e1⟩ := legCells_get l k hlt
      have c0 := J.legs.cell (k * 2)
      have c1 := J.legs.cell (k * 2 + 1)
      rw [List.getElem?_toArray] at c0 c1
      rw [e0] at c0
      rw [e1] at c1
      have hd := HD.out _ (List.getElem_mem hlt)
      have hw := HW.out _ (List.getElem_mem hlt)
      have hat := atK_succ b.dims hlt
      generalize l[k] = leg at *
      obtain ⟨dim, way⟩ := leg
      simp only at c0 c1 hd hw
      have b4 : wr.cell? ⟨w.heap.size, 4, none⟩ = some b.dv := J.bar.cell 4
      have p0 : wr.cell? ⟨g4, 0, none⟩ = some (.int .i64 (atK b.dims l k).x) := J.point.cell 0
      have p1 : wr.cell? ⟨g4, 1, none⟩ = some (.int .i64 (atK b.dims l k).y) := J.point.cell 1
      have p2 : wr.cell? ⟨g4, 2, none⟩ = some (.int .i64 (atK b.dims l k).z) := J.point.cell 2
      have f0 := J.point.frozen 0
      have f1 := J.point.frozen 1
      have f2 := J.point.frozen 2
      have z1 := J.bar.lt
      have z2 := J.point.lt
      have z3 := J.legs.lt
      obtain ⟨bb, off, ea, cd0⟩ := K4.out dim hd
      rw [HE.out, ea] at b4
      have cd := cell_below' cd0 J.below
      have hn := HM.out _ (List.getElem_mem hd)
      have hgd : b.dims.getD dim 0 = b.dims[dim] := by simp [List.getD, hd]
      have hnr := J.near
      have hgd2 : atK b.dims l (k + 1) = addP b.dims (atK b.dims l k) (dim, way) := hat
      unfold addP at hgd2
      simp only [hgd] at hgd2
      have HAT := Lib.hid hgd2
      clear hat hgd hgd2 e0 e1 cd0 ea J
      generalize b.dims[dim] = N at *
      have q3 : (0 : Int) ≤ (dim : Int) := by omega
      have q4 : (dim : Int) < (b.dims.length : Int) := by omega
      obtain ⟨P, hP⟩ : ∃ P, atK b.dims l k = P := ⟨_, rfl⟩
      rw [hP] at p0 p1 p2 hnr HAT
      have HP := Lib.hid hP
      have hk6 : (k : Int) ≤ 5 := by omega
      have hnk : (-1572864 ≤ P.x ∧ P.x ≤ 1572864) ∧ (-1572864 ≤ P.y ∧ P.y ≤ 1572864) ∧ (-1572864 ≤ P.z ∧ P.z ≤ 1572864) := by unfold NearK at hnr; omega
      obtain ⟨⟨x1', x2'⟩, ⟨y1', y2'⟩, z1', z2'⟩ := hnk
      have HNR := Lib.hid hnr
      clear hP hnr
      rcases hw with rfl | rfl | rfl | rfl | rfl
      · have hA := HAT.out
        simp only [Int.reduceEq, if_true, if_false] at hA
        have HA := Lib.hid hA
        clear hA HAT
        go_wp2_with (at_builtin; refine app_own_b rfl _ _ 78 rfl 54 (.agg #[.int .i64 0, .int .i64 0, .int .i64 0]) 3 24 Tryz.underlying78 info_pt rfl (by decide) (g4 + 1) (.slice av (k + 1) cv) (k + 1) (ptCells (ptsK b.dims l k)) _ rfl (((ownsRow_setCell_below HJ.out.row (a := ⟨g4, 0, none⟩) (Nat.lt_succ_self _) _).alloc _).alloc _) _ 1 1 (ptCells [⟨P.x + N, P.y, P.z⟩]) rfl rfl (cells_new ?_ _ _ _ rfl) (ptCells_one _) (by omega) (by decide) ?_ ?_; (first | rfl | simp); (have := HJ.out.point.lt; simp only [World.size_alloc, World.setCell, Array.size_modify]; omega); intro v' w1 hown' hgrow; have HO2 := Lib.hid hown'; obtain ⟨a', c', rfl, _, hc2, _⟩ := own_shape hown'; have hc3 : c' ≤ 9223372036854775807 := hc2; have HGR := Lib.hid hgrow; clear hown' hgrow hc2)
        go_roundw
        case rel => exact ⟨k + 1, by omega, by go_num, HJ.out.step HG1.out.1 HG1.out.2.1 HG.out HG1.out.2.2 _ _ _ _ P ⟨P.x + N, P.y, P.z⟩ HP.out rfl HA.out (by have := HNR.out; unfold NearK at this ⊢; simp only; omega) HO2.out HGR.out⟩
        case measure => simp [intOf]; omega
      · have hA := HAT.out
        simp only [Int.reduceEq, if_true, if_false] at hA
        have HA := Lib.hid hA
        clear hA HAT
        go_wp2_with (at_builtin; refine app_own_b rfl _ _ 78 rfl 54 (.agg #[.int .i64 0, .int .i64 0, .int .i64 0]) 3 24 Tryz.underlying78 info_pt rfl (by decide) (g4 + 1) (.slice av (k + 1) cv) (k + 1) (ptCells (ptsK b.dims l k)) _ rfl (((ownsRow_setCell_below HJ.out.row (a := ⟨g4, 0, none⟩) (Nat.lt_succ_self _) _).alloc _).alloc _) _ 1 1 (ptCells [⟨P.x - N, P.y, P.z⟩]) rfl rfl (cells_new ?_ _ _ _ rfl) (ptCells_one _) (by omega) (by decide) ?_ ?_; (first | rfl | simp); (have := HJ.out.point.lt; simp only [World.size_alloc, World.setCell, Array.size_modify]; omega); intro v' w1 hown' hgrow; have HO2 := Lib.hid hown'; obtain ⟨a', c', rfl, _, hc2, _⟩ := own_shape hown'; have hc3 : c' ≤ 9223372036854775807 := hc2; have HGR := Lib.hid hgrow; clear hown' hgrow hc2)
        go_roundw
        case rel => exact ⟨k + 1, by omega, by go_num, HJ.out.step HG1.out.1 HG1.out.2.1 HG.out HG1.out.2.2 _ _ _ _ P ⟨P.x - N, P.y, P.z⟩ HP.out rfl HA.out (by have := HNR.out; unfold NearK at this ⊢; simp only; omega) HO2.out HGR.out⟩
        case measure => simp [intOf]; omega
      · have hA := HAT.out
        simp only [Int.reduceEq, if_true, if_false] at hA
        have HA := Lib.hid hA
        clear hA HAT
        go_wp2_with (at_builtin; refine app_own_b rfl _ _ 78 rfl 54 (.agg #[.int .i64 0, .int .i64 0, .int .i64 0]) 3 24 Tryz.underlying78 info_pt rfl (by decide) (g4 + 1) (.slice av (k + 1) cv) (k + 1) (ptCells (ptsK b.dims l k)) _ rfl (((ownsRow_setCell_below HJ.out.row (a := ⟨g4, 1, none⟩) (Nat.lt_succ_self _) _).alloc _).alloc _) _ 1 1 (ptCells [⟨P.x, P.y + N, P.z⟩]) rfl rfl (cells_new ?_ _ _ _ rfl) (ptCells_one _) (by omega) (by decide) ?_ ?_; (first | rfl | simp); (have := HJ.out.point.lt; simp only [World.size_alloc, World.setCell, Array.size_modify]; omega); intro v' w1 hown' hgrow; have HO2 := Lib.hid hown'; obtain ⟨a', c', rfl, _, hc2, _⟩ := own_shape hown'; have hc3 : c' ≤ 9223372036854775807 := hc2; have HGR := Lib.hid hgrow; clear hown' hgrow hc2)
        go_roundw
        case rel => exact ⟨k + 1, by omega, by go_num, HJ.out.step HG1.out.1 HG1.out.2.1 HG.out HG1.out.2.2 _ _ _ _ P ⟨P.x, P.y + N, P.z⟩ HP.out rfl HA.out (by have := HNR.out; unfold NearK at this ⊢; simp only; omega) HO2.out HGR.out⟩
        case measure => simp [intOf]; omega
      · have hA := HAT.out
        simp only [Int.reduceEq, if_true, if_false] at hA
        have HA := Lib.hid hA
        clear hA HAT
        go_wp2_with (at_builtin; refine app_own_b rfl _ _ 78 rfl 54 (.agg #[.int .i64 0, .int .i64 0, .int .i64 0]) 3 24 Tryz.underlying78 info_pt rfl (by decide) (g4 + 1) (.slice av (k + 1) cv) (k + 1) (ptCells (ptsK b.dims l k)) _ rfl (((ownsRow_setCell_below HJ.out.row (a := ⟨g4, 1, none⟩) (Nat.lt_succ_self _) _).alloc _).alloc _) _ 1 1 (ptCells [⟨P.x, P.y - N, P.z⟩]) rfl rfl (cells_new ?_ _ _ _ rfl) (ptCells_one _) (by omega) (by decide) ?_ ?_; (first | rfl | simp); (have := HJ.out.point.lt; simp only [World.size_alloc, World.setCell, Array.size_modify]; omega); intro v' w1 hown' hgrow; have HO2 := Lib.hid hown'; obtain ⟨a', c', rfl, _, hc2, _⟩ := own_shape hown'; have hc3 : c' ≤ 9223372036854775807 := hc2; have HGR := Lib.hid hgrow; clear hown' hgrow hc2)
        go_roundw
        case rel => exact ⟨k + 1, by omega, by go_num, HJ.out.step HG1.out.1 HG1.out.2.1 HG.out HG1.out.2.2 _ _ _ _ P ⟨P.x, P.y - N, P.z⟩ HP.out rfl HA.out (by have := HNR.out; unfold NearK at this ⊢; simp only; omega) HO2.out HGR.out⟩
        case measure => simp [intOf]; omega
      · have hA := HAT.out
        simp only [Int.reduceEq, if_false] at hA
        have HA := Lib.hid hA
        clear hA HAT
        go_wp2_with (at_builtin; refine app_own_b rfl _ _ 78 rfl 54 (.agg #[.int .i64 0, .int .i64 0, .int .i64 0]) 3 24 Tryz.underlying78 info_pt rfl (by decide) (g4 + 1) (.slice av (k + 1) cv) (k + 1) (ptCells (ptsK b.dims l k)) _ rfl (((ownsRow_setCell_below HJ.out.row (a := ⟨g4, 2, none⟩) (Nat.lt_succ_self _) _).alloc _).alloc _) _ 1 1 (ptCells [⟨P.x, P.y, P.z + N⟩]) rfl rfl (cells_new ?_ _ _ _ rfl) (ptCells_one _) (by omega) (by decide) ?_ ?_; (first | rfl | simp); (have := HJ.out.point.lt; simp only [World.size_alloc, World.setCell, Array.size_modify]; omega); intro v' w1 hown' hgrow; have HO2 := Lib.hid hown'; obtain ⟨a', c', rfl, _, hc2, _⟩ := own_shape hown'; have hc3 : c' ≤ 9223372036854775807 := hc2; have HGR := Lib.hid hgrow; clear hown' hgrow hc2)
        go_roundw
        case rel => exact ⟨k + 1, by omega, by go_num, HJ.out.step HG1.out.1 HG1.out.2.1 HG.out HG1.out.2.2 _ _ _ _ P ⟨P.x, P.y, P.z + N⟩ HP.out rfl HA.out (by have := HNR.out; unfold NearK at this ⊢; simp only; omega) HO2.out HGR.out⟩
        case measure => simp [intOf]; omega
    · obtain rfl : k = l.length := by omega
      have hown := HJ.out.row
      clear J
      go_wp2
      refine bodyPost_ret (v := .tuple #[.slice av (l.length + 1) cv, .int .i64 0]) (by simp [results, Tryz.results107, go_sem]) rfl ?_
      exact ⟨_, rfl, by rw [ptsK_length]; exact own_mono HJ.out.row (by have := HG1.out.1; omega), ext_of HJ.out.below⟩

end Go.Proofs.YtmhhohancconaaaGreat

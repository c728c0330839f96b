/- LaidE, LaidF, LaidG in one text. -/
import Derived.Test.YtmhhohancconaaaGreatLaidK1
import Derived.Test.YtmhhohancconaaaGreatLaidC
namespace Go.Proofs.YtmhhohancconaaaGreat
open Go.RowKit
set_option maxRecDepth 20000

theorem near_take_succ {l : List Pt} {m : Int} {k : Nat} (h : k < l.length) (h1 : ∀ j (_ : j < k) (h' : j < l.length), nearB l[j] m = true) (h2 : nearB l[k] m = true) : ∀ j (_ : j < k + 1) (h' : j < l.length), nearB l[j] m = true := by
  intro j hj h'
  rcases Nat.lt_or_ge j k with q | q
  · exact h1 j q h'
  · obtain rfl : j = k := by omega
    exact h2
theorem all_near_true {l : List Pt} {m : Int} (h : ∀ j (hj : j < l.length), nearB l[j] m = true) : (l.all fun p => nearB p m) = true := by
  rw [List.all_eq_true]
  intro p hp
  obtain ⟨j, hj, rfl⟩ := List.getElem_of_mem hp
  exact h j hj
theorem all_near_false {l : List Pt} {m : Int} {k : Nat} (hk : k < l.length) (h : nearB l[k] m = false) : (l.all fun p => nearB p m) = false := by
  rw [List.all_eq_false]
  exact ⟨_, List.getElem_mem hk, by rw [h]; exact Bool.false_ne_true⟩

set_option maxRecDepth 100000 in
set_option maxHeartbeats 2000000 in
theorem near_v (l : List Pt) (v : Value) (r : Bool) (h : (l.all fun p => nearB p 1048576) = r) (w : World) (hl : Pts w v l) : Calls Tryz.prog 118 #[v] w (Ret w (.bool r)) := by
  obtain ⟨a, cap, rfl, h2, h3, h4⟩ := hl
  have H4 := Lib.hid h4
  have HR := Lib.hid h
  clear h4 h
  go_enter Tryz.func118, Tryz.ntmps118
  go_wp2_with fail
  go_loopw [9] (fun i wr => ∃ k : Nat, k ≤ l.length ∧ i = .int .i64 k ∧ (∃ x, wr = ext w x) ∧ ∀ j (h : j < k) (h' : j < l.length), nearB l[j] 1048576 = true) (fun i _ => l.length - (intOf i).toNat)
  case atStart => exact ⟨0, by omega, rfl, ext_of (Below.refl _ _), fun j h => by omega⟩
  case round =>
    obtain ⟨k, hk, rfl, ⟨x, rfl⟩, hno⟩ := hrel
    have HNO := Lib.hid hno
    clear hno
    by_cases hlt : k < l.length
    · obtain ⟨b, off, rfl, c0, c1, c2⟩ := H4.out k hlt
      have c0 := cell_ext_some c0 x
      have c1 := cell_ext_some c1 x
      have c2 := cell_ext_some c2 x
      have q1 : (0 : Int) ≤ (k : Int) := by omega
      have q2 : (k : Int) < (l.length : Int) := by omega
      obtain ⟨p, hp⟩ : ∃ p, p = l[k] := ⟨_, rfl⟩
      rw [← hp] at c0 c1 c2
      have HP := Lib.hid hp
      clear hp
      go_wp2_with fail
      clear c0 c1 c2
      refine wp_loop_rounds 4 ?_
      rw [rounds_succ]
      by_cases hx : -1048576 ≤ p.x ∧ p.x ≤ 1048576
      · obtain ⟨hx1, hx2⟩ := hx
        go_wp2_with fail
        rw [rounds_succ]
        by_cases hy : -1048576 ≤ p.y ∧ p.y ≤ 1048576
        · obtain ⟨hy1, hy2⟩ := hy
          go_wp2_with fail
          rw [rounds_succ]
          by_cases hz : -1048576 ≤ p.z ∧ p.z ≤ 1048576
          · obtain ⟨hz1, hz2⟩ := hz
            have HK := Lib.hid (near_take_succ (m := 1048576) hlt HNO.out (by rw [← HP.out]; exact near_iff.2 ⟨⟨hx1, hx2⟩, ⟨hy1, hy2⟩, hz1, hz2⟩))
            go_wp2_with fail
            rw [rounds_succ]
            go_wp2
            go_roundw
            case rel => exact ⟨k + 1, by omega, by go_num, ext_of (by (repeat (first | exact grow_refl _ | refine grow_ext _ ?_ | refine grow_alloc _ ?_ | refine grow_drew ?_))), HK.out⟩
            case measure => simp [intOf]; omega
          · obtain rfl : false = r := by rw [← HR.out]; exact (all_near_false hlt (by rw [← HP.out, Bool.eq_false_iff]; exact fun q => hz (near_iff.1 q).2.2)).symm
            by_cases hz1 : p.z < -1048576
            · clear hz
              go_wp2
              go_ret
              exact Ret.of (by (repeat (first | exact grow_refl _ | refine grow_ext _ ?_ | refine grow_alloc _ ?_ | refine grow_drew ?_)))
            · have hz2 : 1048576 < p.z := by omega
              clear hz
              go_wp2
              go_ret
              exact Ret.of (by (repeat (first | exact grow_refl _ | refine grow_ext _ ?_ | refine grow_alloc _ ?_ | refine grow_drew ?_)))
        · obtain rfl : false = r := by rw [← HR.out]; exact (all_near_false hlt (by rw [← HP.out, Bool.eq_false_iff]; exact fun q => hy (near_iff.1 q).2.1)).symm
          by_cases hy1 : p.y < -1048576
          · clear hy
            go_wp2
            go_ret
            exact Ret.of (by (repeat (first | exact grow_refl _ | refine grow_ext _ ?_ | refine grow_alloc _ ?_ | refine grow_drew ?_)))
          · have hy2 : 1048576 < p.y := by omega
            clear hy
            go_wp2
            go_ret
            exact Ret.of (by (repeat (first | exact grow_refl _ | refine grow_ext _ ?_ | refine grow_alloc _ ?_ | refine grow_drew ?_)))
      · obtain rfl : false = r := by rw [← HR.out]; exact (all_near_false hlt (by rw [← HP.out, Bool.eq_false_iff]; exact fun q => hx (near_iff.1 q).1)).symm
        by_cases hx1 : p.x < -1048576
        · clear hx
          go_wp2
          go_ret
          exact Ret.of (by (repeat (first | exact grow_refl _ | refine grow_ext _ ?_ | refine grow_alloc _ ?_ | refine grow_drew ?_)))
        · have hx2 : 1048576 < p.x := by omega
          clear hx
          go_wp2
          go_ret
          exact Ret.of (by (repeat (first | exact grow_refl _ | refine grow_ext _ ?_ | refine grow_alloc _ ?_ | refine grow_drew ?_)))
    · obtain rfl : k = l.length := by omega
      obtain rfl : true = r := by rw [← HR.out]; exact (all_near_true fun j hj => HNO.out j hj hj).symm
      go_wp2
      go_ret
      exact Ret.of (by (repeat (first | exact grow_refl _ | refine grow_ext _ ?_ | refine grow_alloc _ ?_ | refine grow_drew ?_)))

end Go.Proofs.YtmhhohancconaaaGreat

namespace Go.Proofs.YtmhhohancconaaaGreat
open Go.RowKit
set_option maxRecDepth 20000

/-- What holds before each round of frame.Path. -/
structure FPathJ (w : World) (tx ty : Int) (l : List Pt) (g3 g4 base k : Nat) (v : Value) (wr : World) : Prop where
  below : Below w.heap.size w wr
  turn : Blk wr g3 #[.int .i64 tx, .int .i64 ty] 75
  at0 : Blk wr g4 #[.int .i64 0, .int .i64 0, .int .i64 0] 54
  row : wr.ownsRow base 54 3 v k (ptCells ((l.take k).map (imgP tx ty)))
theorem FPathJ.step {w : World} {tx ty : Int} {l : List Pt} {g3 g4 base k : Nat} {v : Value} {wr : World} (h : FPathJ w tx ty l g3 g4 base k v wr) (h3 : g3 < base) (h4 : g4 < base) (hb : w.heap.size ≤ base) (o : Obj) (y : World) (o2 : Obj)
    (hk : k < l.length) (p : Pt) (hp : l[k] = p) {v' : Value} {w' : World} (hown : w'.ownsRow base 54 3 v' (k + 1) (ptCells ((l.take k).map (imgP tx ty)) ++ ptCells [imgP tx ty p])) (hg : ((ext (wr.alloc o) y).alloc o2).grownBy w' v.ownBlock) : FPathJ w tx ty l g3 g4 base (k + 1) v' w' := by
  have s1 : w.heap.size ≤ wr.heap.size := h.below.size
  have hrow : ∀ k, v.ownBlock = some k → w.heap.size ≤ k := fun k e => by have := (h.row.lt k e).1; omega
  have r4 : some g4 ≠ v.ownBlock := own_base_ne h.row h4
  have r3 : some g3 ≠ v.ownBlock := own_base_ne h.row h3
  subst hp
  refine ⟨?_, (((h.turn.alloc o).ext y).alloc o2).grown hg r3, (((h.at0.alloc o).ext y).alloc o2).grown hg r4, ?_⟩
  · have h1 : Below w.heap.size w ((ext (wr.alloc o) y).alloc o2) := (grow_alloc _ (grow_ext _ (h.below.alloc s1 _)))
    exact h1.grown hg (by simp only [World.size_alloc, size_ext]; omega) hrow
  · rw [List.take_succ_eq_append_getElem hk, List.map_append, ptCells_append]; exact hown

set_option maxRecDepth 100000 in
set_option maxHeartbeats 4000000 in
theorem framePath_c (tx ty : Int) (l : List Pt) (v : Value) (h : turnB tx ty = true) (hn : ∀ p ∈ l, NearP p 1048576) (hlen : l.length ≤ 1000) (w : World) (hl : Pts w v l) :
    Calls Tryz.prog 108 #[.agg #[.int .i64 tx, .int .i64 ty], .agg #[.int .i64 0, .int .i64 0, .int .i64 0], v] w (fun e W => ∃ v', e = .returned (.tuple #[v', .int .i64 0]) ∧ W.ownsRow w.heap.size 54 3 v' (l.map (imgP tx ty)).length (ptCells (l.map (imgP tx ty))) ∧ ∃ x, W = ext w x) := by
  have HV := Lib.hid (fun w => frameValid_v tx ty true h w)
  have HN := Lib.hid (fun w hl => near_v l v true (by rw [List.all_eq_true]; exact fun p hp => near_iff.2 (hn p hp)) w hl)
  have HZ := Lib.hid (fun v w hl => near_v [⟨0, 0, 0⟩] v true (by decide) w hl)
  have HP := Lib.hid (fun p hp w => placed_c tx ty p h (hn p hp) w)
  have HL := Lib.hid hl
  obtain ⟨a, cap, rfl, h2, h3, h4⟩ := hl.shape
  have H4 := Lib.hid h4
  clear h hn hl h4
  have d1 : decide ((1000 : Int) < (l.length : Int)) = false := by simp; omega
  go_enter Tryz.func108, Tryz.ntmps108
  go_wp2_with fail
  go_at_call 80; refine (HV.out _).mono ?_; rintro e w' ⟨rfl, x1, rfl⟩
  go_wp2_with fail
  go_at_call 118; refine (HZ.out _ _ ?_).mono ?_
  · refine ⟨_, 1, rfl, by simp, by decide, fun i hi => ?_⟩
    obtain rfl : i = 0 := by simp at hi; omega
    refine ⟨_, 0, rfl, ?_, ?_, ?_⟩ <;> simp [go_sem]
  rintro e w' ⟨rfl, x2, rfl⟩
  go_wp2_with fail
  go_at_call 118; refine (HN.out _ (HL.out.below (by (repeat (first | exact grow_refl _ | refine grow_ext _ ?_ | refine grow_alloc _ ?_ | refine grow_drew ?_))))).mono ?_; rintro e w' ⟨rfl, x3, rfl⟩
  go_wp2_with fail
  refine world_mask (fun W => FPathJ w tx ty l w.heap.size (w.heap.size + 1) (w.heap.size + 2) 0 (.slice none 0 0) W ∧ w.heap.size + 2 ≤ W.heap.size) _ ⟨⟨by (repeat (first | exact grow_refl _ | refine grow_ext _ ?_ | refine grow_alloc _ ?_ | refine grow_drew ?_)), ?_, ?_, World.ownsRow_nil _ _ _ _⟩, ?_⟩ ?_
  · exact Blk.ext (Blk.ext (Blk.alloc (Blk.ext (Blk.alloc (Blk.new' rfl _ _) _) _) _) _) _
  · exact Blk.ext (Blk.ext (Blk.alloc (Blk.ext (Blk.new' (by simp) _ _) _) _) _) _
  · simp only [size_ext, World.size_alloc]; omega
  rintro W1 ⟨J0, hW1⟩
  go_loopw [8, 31] (fun v i wr => ∃ k : Nat, k ≤ l.length ∧ i = .int .i64 k ∧ FPathJ w tx ty l w.heap.size (w.heap.size + 1) (w.heap.size + 2) k v wr ∧ w.heap.size + 2 ≤ wr.heap.size) (fun _ i _ => l.length - (intOf i).toNat)
  case atStart => exact ⟨0, by omega, rfl, J0, hW1⟩
  case round =>
    clear J0 hW1
    obtain ⟨k, hk, rfl, J, hsz⟩ := hrel
    have HJ := Lib.hid J
    have HSZ := Lib.hid hsz
    obtain ⟨av, cv, rfl, hv1, hv2, _⟩ := own_shape J.row
    have hv3 : cv ≤ 9223372036854775807 := hv2
    by_cases hlt : k < l.length
    · have q1 : (0 : Int) ≤ (k : Int) := by omega
      have q2 : (k : Int) < (l.length : Int) := by omega
      obtain ⟨b, off, ea, hpt⟩ := H4.out k hlt
      obtain ⟨y, ey⟩ := ext_of J.below
      have hpt2 := hpt.ext y
      rw [← ey] at hpt2
      obtain ⟨c0, c1, c2⟩ := hpt2
      subst ea
      have hc := fun w => HP.out _ (List.getElem_mem hlt) w
      obtain ⟨p, hp⟩ : ∃ p, l[k] = p := ⟨_, rfl⟩
      rw [hp] at c0 c1 c2 hc
      have HC := Lib.hid hc
      have HPK := Lib.hid hp
      have t0 : wr.cell? ⟨w.heap.size, 0, none⟩ = some (.int .i64 tx) := J.turn.cell 0
      have t1 : wr.cell? ⟨w.heap.size, 1, none⟩ = some (.int .i64 ty) := J.turn.cell 1
      have a0 : wr.cell? ⟨w.heap.size + 1, 0, none⟩ = some (.int .i64 0) := J.at0.cell 0
      have a1 : wr.cell? ⟨w.heap.size + 1, 1, none⟩ = some (.int .i64 0) := J.at0.cell 1
      have a2 : wr.cell? ⟨w.heap.size + 1, 2, none⟩ = some (.int .i64 0) := J.at0.cell 2
      clear J hpt ey hc hp
      obtain ⟨I, hI⟩ : ∃ I, imgP tx ty p = I := ⟨_, rfl⟩
      rw [hI] at HC
      have HI := Lib.hid hI
      clear hI
      go_wp2_with fail
      go_at_call 119; refine (HC.out _).mono ?_; rintro e w' ⟨rfl, y2, rfl⟩
      go_wp2_with (at_builtin; refine app_own_b rfl _ _ 78 rfl 54 (.agg #[.int .i64 0, .int .i64 0, .int .i64 0]) 3 24 Tryz.underlying78 info_pt rfl (by decide) (w.heap.size + 2) (.slice av k cv) (k) (ptCells ((l.take k).map (imgP tx ty))) _ rfl ((own_ext (HJ.out.row.alloc _) _).alloc _) _ 1 1 (ptCells [I]) rfl rfl (cells_new ?_ _ _ _ rfl) (ptCells_one _) (by omega) (by decide) ?_ ?_; (first | rfl | simp [size_ext]); (have := HSZ.out; simp only [World.size_alloc, size_ext]; omega); intro v' w1 hown' hgrow; have HO2 := Lib.hid hown'; obtain ⟨a', c', rfl, _, hc2, -⟩ := own_shape hown'; have hc3 : c' ≤ 9223372036854775807 := hc2; have HGR := Lib.hid hgrow; clear hown' hgrow hc2)
      go_roundw
      case rel => exact ⟨k + 1, by omega, by go_num, HJ.out.step (by omega) (by omega) (by omega) _ _ _ hlt p HPK.out (by rw [HI.out]; exact HO2.out) HGR.out, by have := HGR.out.size; have := HSZ.out; simp only [World.size_alloc, size_ext] at *; omega⟩
      case measure => simp [intOf]; omega
    · obtain rfl : k = l.length := by omega
      clear J
      go_wp2
      go_ret2
      exact ⟨_, rfl, by have := HJ.out.row; rw [List.take_length] at this; rw [List.length_map]; exact own_mono this (by omega), ext_of HJ.out.below⟩

/-- A mark's comparison: what the closure answers. -/
theorem find1_c (b : Br) (m : ByteArray) (g : Nat) (w : World) (hg : w.cell? ⟨g, 0, none⟩ = some (.string m)) : Calls Tryz.prog 105 #[(.agg #[.string b.mark, .int .i64 b.size, .int .i64 b.count, .int .i64 b.code, b.dv]), .pointer (some ⟨g, 0, none⟩)] w (Ret w (.bool (b.mark.toList == m.toList))) := by
  go_enter Tryz.func105, Tryz.ntmps105
  go_wp2
  go_ret
  exact Ret.of (by (repeat (first | exact grow_refl _ | refine grow_ext _ ?_ | refine grow_alloc _ ?_ | refine grow_drew ?_)))
theorem enters_find1 : Enters 105 := enters_of Tryz.func105 (by decide) (by simp [Tryz.f105])
set_option maxHeartbeats 1000000 in
theorem find_c (l : List Br) (v : Value) (m : ByteArray) (w : World) (hl : Bars w v l) : Calls Tryz.prog 79 #[v, .string m] w (Ret w (.int .i64 (findI l m))) := by
  have HL := Lib.hid hl
  have HX := Lib.hid (fun F hE caps w hl hf => indexBar_c F hE caps m l v w hl hf)
  have HC := Lib.hid (show ∀ (b : Br) (x : World), b ∈ l → Calls Tryz.prog 105 (#[(.agg #[.string b.mark, .int .i64 b.size, .int .i64 b.count, .int .i64 b.code, b.dv])] ++ #[.pointer (some ⟨w.heap.size, 0, none⟩)]) (ext (w.alloc (.cells #[.string m] 9)) x) (Ret (ext (w.alloc (.cells #[.string m] 9)) x) (.bool (b.mark.toList == m.toList))) from
    fun b x _ => find1_c b m w.heap.size _ (by simp [go_sem]))
  clear hl
  generalize findI l m = k at *
  go_enter Tryz.func79, Tryz.ntmps79
  go_wp2_with fail
  go_at_call 103; refine (HX.out _ enters_find1 _ _ (HL.out.below (by (repeat (first | exact grow_refl _ | refine grow_ext _ ?_ | refine grow_alloc _ ?_ | refine grow_drew ?_)))) HC.out).mono ?_; rintro e w' ⟨rfl, x1, rfl⟩
  go_wp2
  go_ret
  exact Ret.of (by (repeat (first | exact grow_refl _ | refine grow_ext _ ?_ | refine grow_alloc _ ?_ | refine grow_drew ?_)))

/-- The path of a run, before it is moved. -/
def turnedL (b : Br) (r : Rn) : List Pt := (pathL b).map (imgP r.tx r.ty)
theorem path_len (b : Br) : 1 ≤ (pathL b).length ∧ (pathL b).length ≤ 7 := by
  unfold pathL
  rw [ptsK_length]
  have := (legs_way b.code).1
  omega

set_option maxRecDepth 100000 in
set_option maxHeartbeats 1000000 in
theorem turned_c (l : List Br) (v : Value) (r : Rn) (hk : 0 ≤ findI l r.mark) (hs : shapeB (barOf l r.mark) = true) (ht : turnB r.tx r.ty = true) (w : World) (hl : Bars w v l) :
    Calls Tryz.prog 82 #[v, (.agg #[.string r.mark, .int .i64 r.tx, .int .i64 r.ty, .int .i64 r.ax, .int .i64 r.ay, .int .i64 r.az, .int .i64 r.sx, .int .i64 r.sy, .int .i64 r.sz, .int .i64 r.count])] w (fun e W => ∃ v', e = .returned v' ∧ W.ownsRow w.heap.size 54 3 v' (turnedL (barOf l r.mark) r).length (ptCells (turnedL (barOf l r.mark) r)) ∧ ∃ x, W = ext w x) := by
  have HF := Lib.hid (fun w hl => find_c l v r.mark w hl)
  have HL := Lib.hid hl
  obtain ⟨a, cap, rfl, h2, h3, h4⟩ := hl.shape
  rcases findI_cases l r.mark with ⟨e, _⟩ | ⟨k, hkl, e, _, _⟩
  · rw [e] at hk; exact absurd hk (by decide)
  have hb : barOf l r.mark = l[k] := by unfold barOf; rw [e]; simp [hkl]
  obtain ⟨hok, b0, off, ea, hbr⟩ := h4 k hkl
  rw [hb] at hs ⊢
  rw [e] at HF
  generalize l[k] = b at *
  have HP := Lib.hid (fun w hb => path_ok b hs w hb)
  have HT := Lib.hid (fun v w hl => framePath_c r.tx r.ty (pathL b) v ht (path_near hs) (by have := (path_len b).2; omega) w hl)
  have HOK := Lib.hid hok
  have HBR := Lib.hid hbr
  have q1 : (0 : Int) ≤ (k : Int) := by omega
  have q2 : (k : Int) < (l.length : Int) := by omega
  have HTL := Lib.hid (show turnedL b r = (pathL b).map (imgP r.tx r.ty) from rfl)
  subst ea
  clear hk hs ht hl h4 e hb hok hbr
  go_enter Tryz.func82, Tryz.ntmps82
  go_wp2_with fail
  go_at_call 79; refine (HF.out _ (HL.out.below (by (repeat (first | exact grow_refl _ | refine grow_ext _ ?_ | refine grow_alloc _ ?_ | refine grow_drew ?_))))).mono ?_; rintro e w' ⟨rfl, x1, rfl⟩
  obtain ⟨c0, c1, c2, c3, c4⟩ := HBR.out
  go_wp2_with fail
  clear c0 c1 c2 c3 c4
  go_at_call 107; refine (HP.out _ (HOK.out.below (by (repeat (first | exact grow_refl _ | refine grow_ext _ ?_ | refine grow_alloc _ ?_ | refine grow_drew ?_))))).mono ?_; rintro e w' ⟨v2, rfl, hown, x2, rfl⟩
  have HOW := Lib.hid hown
  clear hown
  go_wp2_with fail
  go_at_call 108; refine (HT.out _ _ (Pts.of_own HOW.out)).mono ?_; rintro e w' ⟨v3, rfl, hown, x3, rfl⟩
  have HO3 := Lib.hid hown
  clear hown
  go_wp2
  go_ret
  exact ⟨_, rfl, by rw [HTL.out]; exact own_mono HO3.out (by simp only [size_ext, World.size_alloc]; omega), ext_of (by (repeat (first | exact grow_refl _ | refine grow_ext _ ?_ | refine grow_alloc _ ?_ | refine grow_drew ?_)))⟩

end Go.Proofs.YtmhhohancconaaaGreat

namespace Go.Proofs.YtmhhohancconaaaGreat
open Go.RowKit
set_option maxRecDepth 20000

theorem mul_range {k s m b : Int} (hk : 0 ≤ k ∧ k ≤ m) (hs : -b ≤ s ∧ s ≤ b) : -(m * b) ≤ k * s ∧ k * s ≤ m * b := by
  have hb : 0 ≤ b := by omega
  have h1 : k * s ≤ k * b := Int.mul_le_mul_of_nonneg_left hs.2 hk.1
  have h2 : k * b ≤ m * b := Int.mul_le_mul_of_nonneg_right hk.2 hb
  have h3 : k * (-b) ≤ k * s := Int.mul_le_mul_of_nonneg_left hs.1 hk.1
  rw [Int.mul_neg] at h3
  omega
def plusP (p s : Pt) (k : Int) : Pt := ⟨p.x + k * s.x, p.y + k * s.y, p.z + k * s.z⟩

set_option maxHeartbeats 1000000 in
theorem plus_c (p s : Pt) (k : Int) (hp : NearP p 8388608) (hs : NearP s 2097152) (hk : 0 ≤ k ∧ k ≤ 2000) (w : World) : Calls Tryz.prog 83 #[(.agg #[.int .i64 p.x, .int .i64 p.y, .int .i64 p.z]), (.agg #[.int .i64 s.x, .int .i64 s.y, .int .i64 s.z]), .int .i64 k] w (Ret w (.agg #[.int .i64 (plusP p s k).x, .int .i64 (plusP p s k).y, .int .i64 (plusP p s k).z])) := by
  obtain ⟨p1, p2, p3⟩ := hp
  obtain ⟨s1, s2, s3⟩ := hs
  have m1 := mul_range hk s1
  have m2 := mul_range hk s2
  have m3 := mul_range hk s3
  obtain ⟨c1, hc1⟩ : ∃ c, k * s.x = c := ⟨_, rfl⟩
  obtain ⟨c2, hc2⟩ : ∃ c, k * s.y = c := ⟨_, rfl⟩
  obtain ⟨c3, hc3⟩ : ∃ c, k * s.z = c := ⟨_, rfl⟩
  have v1 : wrap64 (k * s.x) = c1 := by rw [← hc1]; exact IntWalk.wrap64_in _ (by omega)
  have v2 : wrap64 (k * s.y) = c2 := by rw [← hc2]; exact IntWalk.wrap64_in _ (by omega)
  have v3 : wrap64 (k * s.z) = c3 := by rw [← hc3]; exact IntWalk.wrap64_in _ (by omega)
  rw [hc1] at m1
  rw [hc2] at m2
  rw [hc3] at m3
  have HE := Lib.hid (show plusP p s k = ⟨p.x + c1, p.y + c2, p.z + c3⟩ by unfold plusP; rw [hc1, hc2, hc3])
  clear hc1 hc2 hc3 s1 s2 s3 hk
  go_enter Tryz.func83, Tryz.ntmps83
  go_wp2
  rw [HE.out]
  refine bodyPost_ret (v := (.agg #[.int .i64 (⟨p.x + c1, p.y + c2, p.z + c3⟩ : Pt).x, .int .i64 (⟨p.x + c1, p.y + c2, p.z + c3⟩ : Pt).y, .int .i64 (⟨p.x + c1, p.y + c2, p.z + c3⟩ : Pt).z])) (by simp [results, Tryz.results83, go_sem]) rfl ?_
  exact Ret.of (by (repeat (first | exact grow_refl _ | refine grow_ext _ ?_ | refine grow_alloc _ ?_ | refine grow_drew ?_)))

set_option maxHeartbeats 1000000 in
theorem isPlace_v (p : Pt) (m : Int) (r : Bool) (h : nearB p m = r) (hm : 0 ≤ m ∧ m ≤ 9000000) (w : World) : Calls Tryz.prog 81 #[(.agg #[.int .i64 p.x, .int .i64 p.y, .int .i64 p.z]), .int .i64 m] w (Ret w (.bool r)) := by
  by_cases h1 : -m ≤ min p.x (min p.y p.z)
  · have HR := Lib.hid (show decide (max p.x (max p.y p.z) ≤ m) = r by
      rw [← h, Bool.eq_iff_iff, near_iff, decide_eq_true_iff]; unfold NearP; omega)
    clear h
    go_enter Tryz.func81, Tryz.ntmps81
    go_wp2
    go_ret
    rw [HR.out]
    exact Ret.of (by (repeat (first | exact grow_refl _ | refine grow_ext _ ?_ | refine grow_alloc _ ?_ | refine grow_drew ?_)))
  · have HR := Lib.hid (show false = r by
      rw [← h]; symm; rw [Bool.eq_false_iff]; intro q; rw [near_iff] at q; unfold NearP at q; omega)
    clear h
    go_enter Tryz.func81, Tryz.ntmps81
    go_wp2
    go_ret
    rw [← HR.out]
    exact Ret.of (by (repeat (first | exact grow_refl _ | refine grow_ext _ ?_ | refine grow_alloc _ ?_ | refine grow_drew ?_)))

end Go.Proofs.YtmhhohancconaaaGreat


/- Turned paths: frame.Path, the line of a mark, laid.turned. -/
import Derived.Test.YtofjopdcbmaijaaLaidE
namespace Go.Proofs.Ytofjopdcbmaijaa
open Go.RowKit
set_option maxRecDepth 20000

/-- What holds before each round of frame.Path. -/
structure FPathJ (w : World) (tx ty : Int) (l : List Pt) (g3 g4 base k : Nat) (v : Value) (wr : World) : Prop where
  below : Below w.heap.size w wr
  turn : Blk wr g3 #[.int .i64 tx, .int .i64 ty] 37
  at0 : Blk wr g4 #[.int .i64 0, .int .i64 0, .int .i64 0] 39
  row : wr.ownsRow base 39 3 v k (ptCells ((l.take k).map (imgP tx ty)))
theorem FPathJ.step {w : World} {tx ty : Int} {l : List Pt} {g3 g4 base k : Nat} {v : Value} {wr : World} (h : FPathJ w tx ty l g3 g4 base k v wr) (h3 : g3 < base) (h4 : g4 < base) (hb : w.heap.size ≤ base) (o : Obj) (y : World) (o2 : Obj)
    (hk : k < l.length) (p : Pt) (hp : l[k] = p) {v' : Value} {w' : World} (hown : w'.ownsRow base 39 3 v' (k + 1) (ptCells ((l.take k).map (imgP tx ty)) ++ ptCells [imgP tx ty p])) (hg : ((ext (wr.alloc o) y).alloc o2).grownBy w' v.ownBlock) : FPathJ w tx ty l g3 g4 base (k + 1) v' w' := by
  have s1 : w.heap.size ≤ wr.heap.size := h.below.size
  have hrow : ∀ k, v.ownBlock = some k → w.heap.size ≤ k := fun k e => by have := (h.row.lt k e).1; omega
  have r4 : some g4 ≠ v.ownBlock := own_base_ne h.row h4
  have r3 : some g3 ≠ v.ownBlock := own_base_ne h.row h3
  subst hp
  refine ⟨?_, (((h.turn.alloc o).ext y).alloc o2).grown hg r3, (((h.at0.alloc o).ext y).alloc o2).grown hg r4, ?_⟩
  · have h1 : Below w.heap.size w ((ext (wr.alloc o) y).alloc o2) := (grow_alloc _ (grow_ext _ (h.below.alloc s1 _)))
    exact h1.grown hg (by simp only [World.size_alloc, size_ext]; omega) hrow
  · rw [List.take_succ_eq_append_getElem hk, List.map_append, ptCells_append]; exact hown

set_option maxRecDepth 100000 in
set_option maxHeartbeats 4000000 in
theorem framePath_c (tx ty : Int) (l : List Pt) (v : Value) (h : turnB tx ty = true) (hn : ∀ p ∈ l, NearP p 1048576) (hlen : l.length ≤ 1000) (w : World) (hl : Pts w v l) :
    Calls Try.prog 74 #[.agg #[.int .i64 tx, .int .i64 ty], .agg #[.int .i64 0, .int .i64 0, .int .i64 0], v] w (fun e W => ∃ v', e = .returned (.tuple #[v', .int .i64 0]) ∧ W.ownsRow w.heap.size 39 3 v' (l.map (imgP tx ty)).length (ptCells (l.map (imgP tx ty))) ∧ ∃ x, W = ext w x) := by
  have HV := Lib.hid (fun w => frameValid_v tx ty true h w)
  have HN := Lib.hid (fun w hl => near_v l v true (by rw [List.all_eq_true]; exact fun p hp => near_iff.2 (hn p hp)) w hl)
  have HZ := Lib.hid (fun v w hl => near_v [⟨0, 0, 0⟩] v true (by decide) w hl)
  have HP := Lib.hid (fun p hp w => placed_c tx ty p h (hn p hp) w)
  have HL := Lib.hid hl
  obtain ⟨a, cap, rfl, h2, h3, h4⟩ := hl.shape
  have H4 := Lib.hid h4
  clear h hn hl h4
  have d1 : decide ((1000 : Int) < (l.length : Int)) = false := by simp; omega
  go_enter Try.func74, Try.ntmps74
  go_wp2_with fail
  go_at_call 51; refine (HV.out _).mono ?_; rintro e w' ⟨rfl, x1, rfl⟩
  go_wp2_with fail
  go_at_call 88; refine (HZ.out _ _ ?_).mono ?_
  · refine ⟨_, 1, rfl, by simp, by decide, fun i hi => ?_⟩
    obtain rfl : i = 0 := by simp at hi; omega
    refine ⟨_, 0, rfl, ?_, ?_, ?_⟩ <;> simp [go_sem]
  rintro e w' ⟨rfl, x2, rfl⟩
  go_wp2_with fail
  go_at_call 88; refine (HN.out _ (HL.out.below (by (repeat (first | exact grow_refl _ | refine grow_ext _ ?_ | refine grow_alloc _ ?_ | refine grow_drew ?_))))).mono ?_; rintro e w' ⟨rfl, x3, rfl⟩
  go_wp2_with fail
  refine world_mask (fun W => FPathJ w tx ty l w.heap.size (w.heap.size + 1) (w.heap.size + 2) 0 (.slice none 0 0) W ∧ w.heap.size + 2 ≤ W.heap.size) _ ⟨⟨by (repeat (first | exact grow_refl _ | refine grow_ext _ ?_ | refine grow_alloc _ ?_ | refine grow_drew ?_)), ?_, ?_, World.ownsRow_nil _ _ _ _⟩, ?_⟩ ?_
  · exact Blk.ext (Blk.ext (Blk.alloc (Blk.ext (Blk.alloc (Blk.new' rfl _ _) _) _) _) _) _
  · exact Blk.ext (Blk.ext (Blk.alloc (Blk.ext (Blk.new' (by simp) _ _) _) _) _) _
  · simp only [size_ext, World.size_alloc]; omega
  rintro W1 ⟨J0, hW1⟩
  go_loopw [8, 31] (fun v i wr => ∃ k : Nat, k ≤ l.length ∧ i = .int .i64 k ∧ FPathJ w tx ty l w.heap.size (w.heap.size + 1) (w.heap.size + 2) k v wr ∧ w.heap.size + 2 ≤ wr.heap.size) (fun _ i _ => l.length - (intOf i).toNat)
  case atStart => exact ⟨0, by omega, rfl, J0, hW1⟩
  case round =>
    clear J0 hW1
    obtain ⟨k, hk, rfl, J, hsz⟩ := hrel
    have HJ := Lib.hid J
    have HSZ := Lib.hid hsz
    obtain ⟨av, cv, rfl, hv1, hv2, _⟩ := own_shape J.row
    have hv3 : cv ≤ 9223372036854775807 := hv2
    by_cases hlt : k < l.length
    · have q1 : (0 : Int) ≤ (k : Int) := by omega
      have q2 : (k : Int) < (l.length : Int) := by omega
      obtain ⟨b, off, ea, hpt⟩ := H4.out k hlt
      obtain ⟨y, ey⟩ := ext_of J.below
      have hpt2 := hpt.ext y
      rw [← ey] at hpt2
      obtain ⟨c0, c1, c2⟩ := hpt2
      subst ea
      have hc := fun w => HP.out _ (List.getElem_mem hlt) w
      obtain ⟨p, hp⟩ : ∃ p, l[k] = p := ⟨_, rfl⟩
      rw [hp] at c0 c1 c2 hc
      have HC := Lib.hid hc
      have HPK := Lib.hid hp
      have t0 : wr.cell? ⟨w.heap.size, 0, none⟩ = some (.int .i64 tx) := J.turn.cell 0
      have t1 : wr.cell? ⟨w.heap.size, 1, none⟩ = some (.int .i64 ty) := J.turn.cell 1
      have a0 : wr.cell? ⟨w.heap.size + 1, 0, none⟩ = some (.int .i64 0) := J.at0.cell 0
      have a1 : wr.cell? ⟨w.heap.size + 1, 1, none⟩ = some (.int .i64 0) := J.at0.cell 1
      have a2 : wr.cell? ⟨w.heap.size + 1, 2, none⟩ = some (.int .i64 0) := J.at0.cell 2
      clear J hpt ey hc hp
      obtain ⟨I, hI⟩ : ∃ I, imgP tx ty p = I := ⟨_, rfl⟩
      rw [hI] at HC
      have HI := Lib.hid hI
      clear hI
      go_wp2_with fail
      go_at_call 89; refine (HC.out _).mono ?_; rintro e w' ⟨rfl, y2, rfl⟩
      go_wp2_with (at_builtin; refine app_own_b rfl _ _ 87 rfl 39 (.agg #[.int .i64 0, .int .i64 0, .int .i64 0]) 3 24 Try.underlying87 info_pt rfl (by decide) (w.heap.size + 2) (.slice av k cv) (k) (ptCells ((l.take k).map (imgP tx ty))) _ rfl ((own_ext (HJ.out.row.alloc _) _).alloc _) _ 1 1 (ptCells [I]) rfl rfl (cells_new ?_ _ _ _ rfl) (ptCells_one _) (by omega) (by decide) ?_ ?_; (first | rfl | simp [size_ext]); (have := HSZ.out; simp only [World.size_alloc, size_ext]; omega); intro v' w1 hown' hgrow; have HO2 := Lib.hid hown'; obtain ⟨a', c', rfl, _, hc2, -⟩ := own_shape hown'; have hc3 : c' ≤ 9223372036854775807 := hc2; have HGR := Lib.hid hgrow; clear hown' hgrow hc2)
      go_roundw
      case rel => exact ⟨k + 1, by omega, by go_num, HJ.out.step (by omega) (by omega) (by omega) _ _ _ hlt p HPK.out (by rw [HI.out]; exact HO2.out) HGR.out, by have := HGR.out.size; have := HSZ.out; simp only [World.size_alloc, size_ext] at *; omega⟩
      case measure => simp [intOf]; omega
    · obtain rfl : k = l.length := by omega
      clear J
      go_wp2
      go_ret2
      exact ⟨_, rfl, by have := HJ.out.row; rw [List.take_length] at this; rw [List.length_map]; exact own_mono this (by omega), ext_of HJ.out.below⟩

/-- A mark's comparison: what the closure answers. -/
theorem find1_c (b : Br) (m : ByteArray) (g : Nat) (w : World) (hg : w.cell? ⟨g, 0, none⟩ = some (.string m)) : Calls Try.prog 71 #[(.agg #[.string b.mark, .int .i64 b.size, .int .i64 b.count, .int .i64 b.code, b.dv]), .pointer (some ⟨g, 0, none⟩)] w (Ret w (.bool (b.mark.toList == m.toList))) := by
  go_enter Try.func71, Try.ntmps71
  go_wp2
  go_ret
  exact Ret.of (by (repeat (first | exact grow_refl _ | refine grow_ext _ ?_ | refine grow_alloc _ ?_ | refine grow_drew ?_)))
theorem enters_find1 : Enters 71 := enters_of Try.func71 (by decide) (by simp [Try.f71])
set_option maxHeartbeats 1000000 in
theorem find_c (l : List Br) (v : Value) (m : ByteArray) (w : World) (hl : Bars w v l) : Calls Try.prog 50 #[v, .string m] w (Ret w (.int .i64 (findI l m))) := by
  have HL := Lib.hid hl
  have HX := Lib.hid (fun F hE caps w hl hf => indexBar_c F hE caps m l v w hl hf)
  have HC := Lib.hid (show ∀ (b : Br) (x : World), b ∈ l → Calls Try.prog 71 (#[(.agg #[.string b.mark, .int .i64 b.size, .int .i64 b.count, .int .i64 b.code, b.dv])] ++ #[.pointer (some ⟨w.heap.size, 0, none⟩)]) (ext (w.alloc (.cells #[.string m] 9)) x) (Ret (ext (w.alloc (.cells #[.string m] 9)) x) (.bool (b.mark.toList == m.toList))) from
    fun b x _ => find1_c b m w.heap.size _ (by simp [go_sem]))
  clear hl
  generalize findI l m = k at *
  go_enter Try.func50, Try.ntmps50
  go_wp2_with fail
  go_at_call 69; refine (HX.out _ enters_find1 _ _ (HL.out.below (by (repeat (first | exact grow_refl _ | refine grow_ext _ ?_ | refine grow_alloc _ ?_ | refine grow_drew ?_)))) HC.out).mono ?_; rintro e w' ⟨rfl, x1, rfl⟩
  go_wp2
  go_ret
  exact Ret.of (by (repeat (first | exact grow_refl _ | refine grow_ext _ ?_ | refine grow_alloc _ ?_ | refine grow_drew ?_)))

/-- The path of a run, before it is moved. -/
def turnedL (b : Br) (r : Rn) : List Pt := (pathL b).map (imgP r.tx r.ty)
theorem path_len (b : Br) : 1 ≤ (pathL b).length ∧ (pathL b).length ≤ 7 := by
  unfold pathL
  rw [ptsK_length]
  have := (legs_way b.code).1
  omega

set_option maxRecDepth 100000 in
set_option maxHeartbeats 1000000 in
theorem turned_c (l : List Br) (v : Value) (r : Rn) (hk : 0 ≤ findI l r.mark) (hs : shapeB (barOf l r.mark) = true) (ht : turnB r.tx r.ty = true) (w : World) (hl : Bars w v l) :
    Calls Try.prog 52 #[v, (.agg #[.string r.mark, .int .i64 r.tx, .int .i64 r.ty, .int .i64 r.ax, .int .i64 r.ay, .int .i64 r.az, .int .i64 r.sx, .int .i64 r.sy, .int .i64 r.sz, .int .i64 r.count])] w (fun e W => ∃ v', e = .returned v' ∧ W.ownsRow w.heap.size 39 3 v' (turnedL (barOf l r.mark) r).length (ptCells (turnedL (barOf l r.mark) r)) ∧ ∃ x, W = ext w x) := by
  have HF := Lib.hid (fun w hl => find_c l v r.mark w hl)
  have HL := Lib.hid hl
  obtain ⟨a, cap, rfl, h2, h3, h4⟩ := hl.shape
  rcases findI_cases l r.mark with ⟨e, _⟩ | ⟨k, hkl, e, _, _⟩
  · rw [e] at hk; exact absurd hk (by decide)
  have hb : barOf l r.mark = l[k] := by unfold barOf; rw [e]; simp [hkl]
  obtain ⟨hok, b0, off, ea, hbr⟩ := h4 k hkl
  rw [hb] at hs ⊢
  rw [e] at HF
  generalize l[k] = b at *
  have HP := Lib.hid (fun w hb => path_ok b hs w hb)
  have HT := Lib.hid (fun v w hl => framePath_c r.tx r.ty (pathL b) v ht (path_near hs) (by have := (path_len b).2; omega) w hl)
  have HOK := Lib.hid hok
  have HBR := Lib.hid hbr
  have q1 : (0 : Int) ≤ (k : Int) := by omega
  have q2 : (k : Int) < (l.length : Int) := by omega
  have HTL := Lib.hid (show turnedL b r = (pathL b).map (imgP r.tx r.ty) from rfl)
  subst ea
  clear hk hs ht hl h4 e hb hok hbr
  go_enter Try.func52, Try.ntmps52
  go_wp2_with fail
  go_at_call 50; refine (HF.out _ (HL.out.below (by (repeat (first | exact grow_refl _ | refine grow_ext _ ?_ | refine grow_alloc _ ?_ | refine grow_drew ?_))))).mono ?_; rintro e w' ⟨rfl, x1, rfl⟩
  obtain ⟨c0, c1, c2, c3, c4⟩ := HBR.out
  go_wp2_with fail
  clear c0 c1 c2 c3 c4
  go_at_call 73; refine (HP.out _ (HOK.out.below (by (repeat (first | exact grow_refl _ | refine grow_ext _ ?_ | refine grow_alloc _ ?_ | refine grow_drew ?_))))).mono ?_; rintro e w' ⟨v2, rfl, hown, x2, rfl⟩
  have HOW := Lib.hid hown
  clear hown
  go_wp2_with fail
  go_at_call 74; refine (HT.out _ _ (Pts.of_own HOW.out)).mono ?_; rintro e w' ⟨v3, rfl, hown, x3, rfl⟩
  have HO3 := Lib.hid hown
  clear hown
  go_wp2
  go_ret
  exact ⟨_, rfl, by rw [HTL.out]; exact own_mono HO3.out (by simp only [size_ext, World.size_alloc]; omega), ext_of (by (repeat (first | exact grow_refl _ | refine grow_ext _ ?_ | refine grow_alloc _ ?_ | refine grow_drew ?_)))⟩

end Go.Proofs.Ytofjopdcbmaijaa

/- The hull of boxes. -/
import Derived.Test.YtafkibnkpcmmgaaRefK
import Derived.Test.YtafkibnkpcmmgaaBoxK2
namespace Go.Proofs.Ytafkibnkpcmmgaa
open Go.RowKit
set_option maxRecDepth 20000

def joinX (a b : Bx) : Bx := ⟨min a.lx b.lx, min a.ly b.ly, min a.lz b.lz, max a.hx b.hx, max a.hy b.hy, max a.hz b.hz⟩
def hullTo (a : Bx) (l : List Bx) (i : Nat) : Bx := (l.take i).foldl joinX a
def hullX : List Bx → Bx
  | [] => zeroX
  | a :: r => (a :: r).foldl joinX a
theorem hullTo_succ (a : Bx) (l : List Bx) (i : Nat) (h : i < l.length) : hullTo a l (i + 1) = joinX (hullTo a l i) l[i] := by
  unfold hullTo; rw [List.take_succ_eq_append_getElem h, List.foldl_append]; rfl
theorem hullTo_one (l : List Bx) (h : 0 < l.length) : hullTo l[0] l 1 = l[0] := by
  rw [hullTo_succ _ _ _ h]
  show joinX l[0] l[0] = l[0]
  unfold joinX
  simp
theorem hullTo_all (l : List Bx) (h : 0 < l.length) : hullTo l[0] l l.length = hullX l := by
  unfold hullTo
  rw [List.take_length]
  cases l with
  | nil => simp at h
  | cons a r => rfl

set_option maxRecDepth 100000 in
set_option maxHeartbeats 1000000 in
theorem Hull_ok (l : List Bx) (v : Value) (w : World) (hl : Boxes w v l) (h1 : l.all validB = true) (h0 : 0 < l.length) :
    Calls Try.prog 52 #[v] w (Ret w (.tuple #[(.agg #[.int .i64 (hullX l).lx, .int .i64 (hullX l).ly, .int .i64 (hullX l).lz, .int .i64 (hullX l).hx, .int .i64 (hullX l).hy, .int .i64 (hullX l).hz]), .int .i64 0])) := by
  obtain ⟨a, cap, rfl, hcap, hcap2, hcell⟩ := hl.shape
  have HCE := Lib.hid hcell
  have HALL := Lib.hid (hullTo_all l h0)
  obtain ⟨b0, off0, rfl, c0, c1, c2, c3, c4, c5⟩ := hcell 0 h0
  rw [Nat.zero_mul, Nat.add_zero] at c0 c1 c2 c3 c4 c5
  clear hcell
  have HL := Lib.hid hl
  clear hl
  have hz : ¬ ((l.length : Int) = 0) := by omega
  have hp : (0 : Int) < (l.length : Int) := by omega
  go_enter Try.func52, Try.ntmps52
  go_wp2_with fail
  refine (all_c l _ _ (HL.out.below (by (repeat (first | exact grow_refl _ | refine grow_ext _ ?_ | refine grow_alloc _ ?_ | refine grow_drew ?_))))).mono ?_; rintro e w' ⟨rfl, x1, rfl⟩
  rw [h1]
  go_wp2_with fail
  clear c0 c1 c2 c3 c4 c5
  go_loopw [22] (fun i wr => ∃ j : Nat, j ≤ l.length ∧ i = .int .i64 j ∧ ∃ x, wr = ext ((ext (w.alloc (.cells #[.int .i64 0, .int .i64 0, .int .i64 0, .int .i64 0, .int .i64 0, .int .i64 0] 28)) x1).alloc (.cells #[.int .i64 (hullTo l[0] l j).lx, .int .i64 (hullTo l[0] l j).ly, .int .i64 (hullTo l[0] l j).lz, .int .i64 (hullTo l[0] l j).hx, .int .i64 (hullTo l[0] l j).hy, .int .i64 (hullTo l[0] l j).hz] 28)) x) (fun i _ => l.length - (intOf i).toNat)
  case atStart => exact ⟨0, by omega, rfl, ext_refl _⟩
  case round =>
    obtain ⟨j, hj, rfl, x, rfl⟩ := hrel
    by_cases hlt : j < l.length
    · obtain ⟨b1, off1, e1, c0, c1, c2, c3, c4, c5⟩ := HCE.out j hlt
      cases e1
      have HS := Lib.hid (hullTo_succ l[0] l j hlt)
      generalize hullTo l[0] l j = H at HS
      go_wp2
      go_roundw
      case rel => exact ⟨j + 1, by omega, by go_num, by rw [HS.out]; simp only [joinX]; exact ext_of (by (repeat (first | exact grow_refl _ | refine grow_ext _ ?_ | refine grow_alloc _ ?_ | refine grow_drew ?_)))⟩
      case measure => simp [intOf]; omega
    · obtain rfl : j = l.length := by omega
      rw [HALL.out]
      go_wp2
      refine bodyPost_ret (v := .tuple #[(.agg #[.int .i64 (hullX l).lx, .int .i64 (hullX l).ly, .int .i64 (hullX l).lz, .int .i64 (hullX l).hx, .int .i64 (hullX l).hy, .int .i64 (hullX l).hz]), .int .i64 0]) (by simp [results, Try.results52, go_sem]) rfl ?_
      exact Ret.of (by (repeat (first | exact grow_refl _ | refine grow_ext _ ?_ | refine grow_alloc _ ?_ | refine grow_drew ?_)))

set_option maxHeartbeats 400000 in
theorem Hull_arg (l : List Bx) (v : Value) (w : World) (hl : Boxes w v l) (h1 : l.all validB = false) :
    Calls Try.prog 52 #[v] w (Ret w (.tuple #[(.agg #[.int .i64 0, .int .i64 0, .int .i64 0, .int .i64 0, .int .i64 0, .int .i64 0]), .int .i64 1])) := by
  go_enter Try.func52, Try.ntmps52
  go_wp2_with fail
  refine (all_c l _ _ (hl.below (by (repeat (first | exact grow_refl _ | refine grow_ext _ ?_ | refine grow_alloc _ ?_ | refine grow_drew ?_))))).mono ?_; rintro e w' ⟨rfl, x1, rfl⟩
  rw [h1]
  go_wp2
  refine bodyPost_ret (v := .tuple #[(.agg #[.int .i64 0, .int .i64 0, .int .i64 0, .int .i64 0, .int .i64 0, .int .i64 0]), .int .i64 1]) (by simp [results, Try.results52, go_sem]) rfl ?_
  exact Ret.of (by (repeat (first | exact grow_refl _ | refine grow_ext _ ?_ | refine grow_alloc _ ?_ | refine grow_drew ?_)))

set_option maxHeartbeats 400000 in
theorem Hull_empty (v : Value) (w : World) (hl : Boxes w v []) :
    Calls Try.prog 52 #[v] w (Ret w (.tuple #[(.agg #[.int .i64 0, .int .i64 0, .int .i64 0, .int .i64 0, .int .i64 0, .int .i64 0]), .int .i64 14])) := by
  obtain ⟨a, cap, rfl, hcap, hcap2, hcell⟩ := hl.shape
  clear hcell
  have HL := Lib.hid hl
  clear hl
  simp only [List.length_nil] at *
  go_enter Try.func52, Try.ntmps52
  go_wp2_with fail
  refine (all_c [] _ _ (HL.out.below (by (repeat (first | exact grow_refl _ | refine grow_ext _ ?_ | refine grow_alloc _ ?_ | refine grow_drew ?_))))).mono ?_; rintro e w' ⟨rfl, x1, rfl⟩
  rw [show ([] : List Bx).all validB = true from rfl]
  go_wp2
  refine bodyPost_ret (v := .tuple #[(.agg #[.int .i64 0, .int .i64 0, .int .i64 0, .int .i64 0, .int .i64 0, .int .i64 0]), .int .i64 14]) (by simp [results, Try.results52, go_sem]) rfl ?_
  exact Ret.of (by (repeat (first | exact grow_refl _ | refine grow_ext _ ?_ | refine grow_alloc _ ?_ | refine grow_drew ?_)))

def hullR (l : List Bx) : Bx × Int := if l.all validB = true then (if 0 < l.length then (hullX l, 0) else (zeroX, 14)) else (zeroX, 1)
theorem Hull_c (l : List Bx) (v : Value) (w : World) (hl : Boxes w v l) : Calls Try.prog 52 #[v] w (Ret w (.tuple #[(.agg #[.int .i64 (hullR l).1.lx, .int .i64 (hullR l).1.ly, .int .i64 (hullR l).1.lz, .int .i64 (hullR l).1.hx, .int .i64 (hullR l).1.hy, .int .i64 (hullR l).1.hz]), .int .i64 (hullR l).2])) := by
  unfold hullR
  cases h : l.all validB
  · simpa [zeroX] using Hull_arg l v w hl h
  · by_cases h0 : 0 < l.length
    · simpa [h0] using Hull_ok l v w hl h h0
    · have : l = [] := List.eq_nil_of_length_eq_zero (by omega)
      subst this
      simpa [zeroX] using Hull_empty v w hl

set_option maxRecDepth 100000 in
set_option maxHeartbeats 4000000 in
theorem refHull_c (l : List Bx) (v : Value) (w : World) (hl : Boxes w v l) (h0 : 0 < l.length) :
    Calls Try.prog 65 #[v] w (Ret w (.agg #[.int .i64 (hullX l).lx, .int .i64 (hullX l).ly, .int .i64 (hullX l).lz, .int .i64 (hullX l).hx, .int .i64 (hullX l).hy, .int .i64 (hullX l).hz])) := by
  obtain ⟨a, cap, rfl, hcap, hcap2, hcell⟩ := hl.shape
  have HCE := Lib.hid hcell
  have HALL := Lib.hid (hullTo_all l h0)
  have HONE := Lib.hid (hullTo_one l h0)
  obtain ⟨b0, off0, rfl, c0, c1, c2, c3, c4, c5⟩ := hcell 0 h0
  rw [Nat.zero_mul, Nat.add_zero] at c0 c1 c2 c3 c4 c5
  clear hcell hl
  have hp : (0 : Int) < (l.length : Int) := by omega
  go_enter Try.func65, Try.ntmps65
  go_wp2_with fail
  clear c0 c1 c2 c3 c4 c5
  go_loopw [4] (fun i wr => ∃ j : Nat, 1 ≤ j ∧ j ≤ l.length ∧ i = .int .i64 j ∧ ∃ x, wr = ext ((w.alloc (.cells #[.int .i64 0, .int .i64 0, .int .i64 0, .int .i64 0, .int .i64 0, .int .i64 0] 28)).alloc (.cells #[.int .i64 (hullTo l[0] l j).lx, .int .i64 (hullTo l[0] l j).ly, .int .i64 (hullTo l[0] l j).lz, .int .i64 (hullTo l[0] l j).hx, .int .i64 (hullTo l[0] l j).hy, .int .i64 (hullTo l[0] l j).hz] 28)) x) (fun i _ => l.length - (intOf i).toNat)
  case atStart => exact ⟨1, by omega, by omega, rfl, by rw [HONE.out]; exact ext_refl _⟩
  case round =>
    obtain ⟨j, hj1, hj, rfl, x, rfl⟩ := hrel
    by_cases hlt : j < l.length
    · obtain ⟨b1, off1, e1, c0, c1, c2, c3, c4, c5⟩ := HCE.out j hlt
      cases e1
      have HS := Lib.hid (hullTo_succ l[0] l j hlt)
      generalize hullTo l[0] l j = H at HS
      generalize l[j] = B at HS c0 c1 c2 c3 c4 c5
      have p5 : (0 : Int) ≤ (j : Int) := by omega
      have p6 : (j : Int) < (l.length : Int) := by omega
      go_wp2_with fail
      refine wp_loop_rounds 4 ?_
      rw [rounds_succ]
      go_wp2_with fail
      refine wp_region_tail 17 (by kernel_rfl) (by kernel_rfl) ?_; simp only [List.take_succ_cons, List.take_zero, List.drop_succ_cons, List.drop_zero]
      repeat (go_big_quiet_step ((first | (go_at_call_of 13 (Value.agg #[.int .i64 H.lx, .int .i64 H.ly, .int .i64 H.lz]); exact Calls.quiet_ext (coord0_c _ _ _ _)) | (go_at_call_of 13 (Value.agg #[.int .i64 B.lx, .int .i64 B.ly, .int .i64 B.lz]); exact Calls.quiet_ext (coord0_c _ _ _ _)) | (go_at_call 14; exact Calls.quiet_ext (with0_c _ _ _ _ _)))))
      refine wpQuiet_nil ?_; rintro _ ⟨xq, rfl⟩
      go_wp2_with fail
      refine wp_region_tail 17 (by kernel_rfl) (by kernel_rfl) ?_; simp only [List.take_succ_cons, List.take_zero, List.drop_succ_cons, List.drop_zero]
      repeat (go_big_quiet_step ((first | (go_at_call_of 13 (Value.agg #[.int .i64 H.hx, .int .i64 H.hy, .int .i64 H.hz]); exact Calls.quiet_ext (coord0_c _ _ _ _)) | (go_at_call_of 13 (Value.agg #[.int .i64 B.hx, .int .i64 B.hy, .int .i64 B.hz]); exact Calls.quiet_ext (coord0_c _ _ _ _)) | (go_at_call 14; exact Calls.quiet_ext (with0_c _ _ _ _ _)))))
      refine wpQuiet_nil ?_; rintro _ ⟨xq, rfl⟩
      go_wp2_with fail
      rw [rounds_succ]
      go_wp2_with fail
      refine wp_region_tail 17 (by kernel_rfl) (by kernel_rfl) ?_; simp only [List.take_succ_cons, List.take_zero, List.drop_succ_cons, List.drop_zero]
      repeat (go_big_quiet_step ((first | (go_at_call_of 13 (Value.agg #[.int .i64 (min H.lx B.lx), .int .i64 H.ly, .int .i64 H.lz]); exact Calls.quiet_ext (coord1_c _ _ _ _)) | (go_at_call_of 13 (Value.agg #[.int .i64 B.lx, .int .i64 B.ly, .int .i64 B.lz]); exact Calls.quiet_ext (coord1_c _ _ _ _)) | (go_at_call 14; exact Calls.quiet_ext (with1_c _ _ _ _ _)))))
      refine wpQuiet_nil ?_; rintro _ ⟨xq, rfl⟩
      go_wp2_with fail
      refine wp_region_tail 17 (by kernel_rfl) (by kernel_rfl) ?_; simp only [List.take_succ_cons, List.take_zero, List.drop_succ_cons, List.drop_zero]
      repeat (go_big_quiet_step ((first | (go_at_call_of 13 (Value.agg #[.int .i64 (max H.hx B.hx), .int .i64 H.hy, .int .i64 H.hz]); exact Calls.quiet_ext (coord1_c _ _ _ _)) | (go_at_call_of 13 (Value.agg #[.int .i64 B.hx, .int .i64 B.hy, .int .i64 B.hz]); exact Calls.quiet_ext (coord1_c _ _ _ _)) | (go_at_call 14; exact Calls.quiet_ext (with1_c _ _ _ _ _)))))
      refine wpQuiet_nil ?_; rintro _ ⟨xq, rfl⟩
      go_wp2_with fail
      rw [rounds_succ]
      go_wp2_with fail
      refine wp_region_tail 17 (by kernel_rfl) (by kernel_rfl) ?_; simp only [List.take_succ_cons, List.take_zero, List.drop_succ_cons, List.drop_zero]
      repeat (go_big_quiet_step ((first | (go_at_call_of 13 (Value.agg #[.int .i64 (min H.lx B.lx), .int .i64 (min H.ly B.ly), .int .i64 H.lz]); exact Calls.quiet_ext (coord2_c _ _ _ _)) | (go_at_call_of 13 (Value.agg #[.int .i64 B.lx, .int .i64 B.ly, .int .i64 B.lz]); exact Calls.quiet_ext (coord2_c _ _ _ _)) | (go_at_call 14; exact Calls.quiet_ext (with2_c _ _ _ _ _)))))
      refine wpQuiet_nil ?_; rintro _ ⟨xq, rfl⟩
      go_wp2_with fail
      refine wp_region_tail 17 (by kernel_rfl) (by kernel_rfl) ?_; simp only [List.take_succ_cons, List.take_zero, List.drop_succ_cons, List.drop_zero]
      repeat (go_big_quiet_step ((first | (go_at_call_of 13 (Value.agg #[.int .i64 (max H.hx B.hx), .int .i64 (max H.hy B.hy), .int .i64 H.hz]); exact Calls.quiet_ext (coord2_c _ _ _ _)) | (go_at_call_of 13 (Value.agg #[.int .i64 B.hx, .int .i64 B.hy, .int .i64 B.hz]); exact Calls.quiet_ext (coord2_c _ _ _ _)) | (go_at_call 14; exact Calls.quiet_ext (with2_c _ _ _ _ _)))))
      refine wpQuiet_nil ?_; rintro _ ⟨xq, rfl⟩
      go_wp2_with fail
      rw [rounds_succ]
      go_wp2
      go_roundw
      case rel => exact ⟨j + 1, by omega, by omega, by go_num, by rw [HS.out]; simp only [joinX]; exact ext_of (by (repeat (first | exact grow_refl _ | refine grow_ext _ ?_ | refine grow_alloc _ ?_ | refine grow_drew ?_)))⟩
      case measure => simp [intOf]; omega
    · obtain rfl : j = l.length := by omega
      rw [HALL.out]
      go_wp2
      refine bodyPost_ret (v := (.agg #[.int .i64 (hullX l).lx, .int .i64 (hullX l).ly, .int .i64 (hullX l).lz, .int .i64 (hullX l).hx, .int .i64 (hullX l).hy, .int .i64 (hullX l).hz])) (by simp [results, Try.results65, go_sem]) rfl ?_
      exact Ret.of (by (repeat (first | exact grow_refl _ | refine grow_ext _ ?_ | refine grow_alloc _ ?_ | refine grow_drew ?_)))

end Go.Proofs.Ytafkibnkpcmmgaa

/- The example's solid, built by the program. -/
import Derived.Test.YtafkibnkpcmmgaaSolV
import Derived.Deep.RegionHeld3
namespace Go.Proofs.Ytafkibnkpcmmgaa
open Go.RowKit
set_option maxRecDepth 20000

set_option maxHeartbeats 400000 in
theorem cube17_c (a b c d e f : Int) (w : World) : Calls Try.prog 72 #[.int .i64 a, .int .i64 b, .int .i64 c, .int .i64 d, .int .i64 e, .int .i64 f] w (Ret w (.agg #[.int .i64 (Bx.mk a b c d e f).lx, .int .i64 (Bx.mk a b c d e f).ly, .int .i64 (Bx.mk a b c d e f).lz, .int .i64 (Bx.mk a b c d e f).hx, .int .i64 (Bx.mk a b c d e f).hy, .int .i64 (Bx.mk a b c d e f).hz])) := by
  go_enter Try.func72, Try.ntmps72
  go_wp2
  refine bodyPost_ret (v := .agg #[.int .i64 a, .int .i64 b, .int .i64 c, .int .i64 d, .int .i64 e, .int .i64 f]) (by simp [results, Try.results72, go_sem]) rfl ?_
  exact Ret.of (by (repeat (first | exact grow_refl _ | refine grow_ext _ ?_ | refine grow_alloc _ ?_ | refine grow_drew ?_)))

set_option maxHeartbeats 2000000 in
theorem wall_c (w : World) : Calls Try.prog 43 #[] w (fun e W => ∃ u t, e = .returned (.agg #[u, t]) ∧ Boxes W u wallB ∧ Boxes W t wallH ∧ ∃ x, W = ext w x) := by
  go_enter Try.func43, Try.ntmps43
  go_wp2_with fail
  go_at_call 72; refine (cube17_c _ _ _ _ _ _ _).mono ?_; rintro e w' ⟨rfl, x1, rfl⟩; dsimp only
  go_wp2_with fail
  go_at_call 72; refine (cube17_c _ _ _ _ _ _ _).mono ?_; rintro e w' ⟨rfl, x2, rfl⟩; dsimp only
  go_wp2
  refine bodyPost_ret (v := .agg #[.slice (some ⟨w.heap.size + 1 + x1.heap.size, 0, none⟩) 1 1, .slice (some ⟨w.heap.size + 1 + x1.heap.size + 1 + x2.heap.size, 0, none⟩) 1 1]) (by simp [results, Try.results43, go_sem]) rfl ?_
  refine ⟨_, _, rfl, ?_, ?_, ext_of (by (repeat (first | exact grow_refl _ | refine grow_ext _ ?_ | refine grow_alloc _ ?_ | refine grow_drew ?_)))⟩
  · exact Boxes.below (Boxes.of_own (base := 0) (l := wallB) (own_lit _ _ _ _ _ (by simp [size_ext]) (Nat.zero_le _) (by decide) rfl rfl)) (grow_alloc _ (grow_ext _ (grow_refl _)))
  · exact Boxes.of_own (base := 0) (l := wallH) (own_lit _ _ _ _ _ (by simp [size_ext]) (Nat.zero_le _) (by decide) rfl rfl)

set_option maxRecDepth 100000 in
set_option maxHeartbeats 2000000 in
theorem awake17_c (w : World) : Calls Try.prog 9 #[] w (Ret w (.bool true)) := by
  go_enter Try.func9, Try.ntmps9
  go_wp2_with fail
  go_at_call 43; refine (wall_c _).mono ?_; rintro e w' ⟨u1, t1, rfl, U1, T1, x1, rfl⟩
  go_wp2_with fail
  go_at_call 18; refine (volume_c wallB wallH _ _ _ U1 T1).mono ?_; rintro e w' ⟨rfl, y1, rfl⟩
  rw [wall_volR]
  clear U1 T1
  go_wp2_with fail
  go_at_call 43; refine (wall_c _).mono ?_; rintro e w' ⟨u2, t2, rfl, U1, T1, x2, rfl⟩
  go_wp2_with fail
  go_at_call 23; refine (section_c wallB wallH _ _ _ _ U1 T1).mono ?_; rintro e w' ⟨rfl, y2, rfl⟩
  rw [wall_sectR]
  clear U1 T1
  go_wp2_with fail
  go_at_call 43; refine (wall_c _).mono ?_; rintro e w' ⟨u3, t3, rfl, U1, T1, x3, rfl⟩
  go_wp2_with fail
  go_at_call 16; refine (solidInside_c wallB wallH _ _ _ _ _ _ U1 T1).mono ?_; rintro e w' ⟨rfl, y3, rfl⟩
  rw [wall_inR]
  clear U1 T1
  go_wp2_with fail
  go_at_call 43; refine (wall_c _).mono ?_; rintro e w' ⟨u4, t4, rfl, U1, T1, x4, rfl⟩
  go_wp2_with fail
  go_at_call 16; refine (solidInside_c wallB wallH _ _ _ _ _ _ U1 T1).mono ?_; rintro e w' ⟨rfl, y4, rfl⟩
  rw [wall_outR]
  clear U1 T1
  go_wp2_with fail
  go_at_call 43; refine (wall_c _).mono ?_; rintro e w' ⟨u5, t5, rfl, U1, T1, x5, rfl⟩
  go_wp2_with fail
  go_at_call 30; refine (solidValid_c wallB wallH _ _ _ U1 T1).mono ?_; rintro e w' ⟨rfl, y5, rfl⟩
  rw [wall_solid]
  clear U1 T1
  go_wp2
  go_ret
  exact Ret.of (by (repeat (first | exact grow_refl _ | refine grow_ext _ ?_ | refine grow_alloc _ ?_ | refine grow_drew ?_)))

end Go.Proofs.Ytafkibnkpcmmgaa

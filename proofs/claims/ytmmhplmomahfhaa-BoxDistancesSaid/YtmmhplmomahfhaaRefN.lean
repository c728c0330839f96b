/- The reference's nearest points. -/
import Derived.Test.YtmmhplmomahfhaaRefA
import Derived.Test.YtmmhplmomahfhaaBoxH
namespace Go.Proofs.Ytmmhplmomahfhaa
open Go.RowKit

def refNearV (a b : Bx) : Value := .tuple #[(.agg #[.int .i64 (nearP a b 0).1, .int .i64 (nearP a b 1).1, .int .i64 (nearP a b 2).1]), (.agg #[.int .i64 (nearP a b 0).2, .int .i64 (nearP a b 1).2, .int .i64 (nearP a b 2).2])]

set_option maxRecDepth 100000 in
set_option maxHeartbeats 8000000 in
theorem refNearest_c (a b : Bx) (ha : validB a = true) (hb : validB b = true) (w : World) :
    Calls Try.prog 15 #[(.agg #[.int .i64 a.lx, .int .i64 a.ly, .int .i64 a.lz, .int .i64 a.hx, .int .i64 a.hy, .int .i64 a.hz]), (.agg #[.int .i64 b.lx, .int .i64 b.ly, .int .i64 b.lz, .int .i64 b.hx, .int .i64 b.hy, .int .i64 b.hz])] w (Ret w (refNearV a b)) := by
  have oa := valid_iff.1 ha
  have ob := valid_iff.1 hb
  clear ha hb
  go_enter Try.func15, Try.ntmps15
  go_wp2
  go_loopw [8] (fun i wr => ∃ k : Nat, k ≤ 3 ∧ i = .int .i64 k ∧ ∃ x, wr = ext ((((((w.alloc (.cells #[.int .i64 a.lx, .int .i64 a.ly, .int .i64 a.lz, .int .i64 a.hx, .int .i64 a.hy, .int .i64 a.hz] 25)).alloc (.cells #[.int .i64 b.lx, .int .i64 b.ly, .int .i64 b.lz, .int .i64 b.hx, .int .i64 b.hy, .int .i64 b.hz] 25)).alloc (.cells #[.int .i64 0, .int .i64 0, .int .i64 0] 23)).alloc (.cells #[.int .i64 0, .int .i64 0, .int .i64 0] 23)).alloc (.cells #[.int .i64 (pc a b k 0 0), .int .i64 (pc a b k 1 1), .int .i64 (pc a b k 2 2)] 23)).alloc (.cells #[.int .i64 (qc a b k 0 0), .int .i64 (qc a b k 1 1), .int .i64 (qc a b k 2 2)] 23)) x) (fun i _ => 3 - (intOf i).toNat)
  case atStart => exact ⟨0, by omega, rfl, ext_refl _⟩
  case round =>
    obtain ⟨k, hk, rfl, x3, rfl⟩ := hrel
    have hk3 : k = 0 ∨ k = 1 ∨ k = 2 ∨ k = 3 := by omega
    rcases hk3 with rfl | rfl | rfl | rfl
    · rw [show pc a b 0 0 0 = 0 from rfl, show pc a b 0 1 1 = 0 from rfl, show pc a b 0 2 2 = 0 from rfl, show qc a b 0 0 0 = 0 from rfl, show qc a b 0 1 1 = 0 from rfl, show qc a b 0 2 2 = 0 from rfl]
      rcases near_tri a.lx a.hx b.lx b.hx with ⟨g, e, f⟩ | ⟨g, g', e, f⟩ | ⟨g, g', e, f⟩
      · have E1 := Lib.hid e
        have E2 := Lib.hid f
        clear e f
        go_wp2_with fail
        refine wp_region_grows (by kernel_rfl) (by kernel_rfl) ?_
        repeat (go_big_quiet_step ((first | (go_at_call_of 42 (Value.agg #[.int .i64 a.lx, .int .i64 a.ly, .int .i64 a.lz]); exact Calls.quiet_ext (coord0_c _ _ _ _)) | (go_at_call_of 42 (Value.agg #[.int .i64 b.lx, .int .i64 b.ly, .int .i64 b.lz]); exact Calls.quiet_ext (coord0_c _ _ _ _)))))
        refine wpQuiet_nil ?_; rintro _ ⟨xq, rfl⟩
        go_wp2_with fail
        refine wp_region_grows (by kernel_rfl) (by kernel_rfl) ?_
        repeat (go_big_quiet_step ((first | (go_at_call_of 42 (Value.agg #[.int .i64 a.hx, .int .i64 a.hy, .int .i64 a.hz]); exact Calls.quiet_ext (coord0_c _ _ _ _)) | (go_at_call_of 42 (Value.agg #[.int .i64 b.lx, .int .i64 b.ly, .int .i64 b.lz]); exact Calls.quiet_ext (coord0_c _ _ _ _)))))
        refine wpQuiet_nil ?_; rintro _ ⟨xq, rfl⟩
        go_wp2_with fail
        go_at_call 42; refine (coord0_c _ _ _ _).mono ?_; rintro e w' ⟨rfl, y, rfl⟩
        go_wp2_with fail
        go_at_call 42; refine (coord0_c _ _ _ _).mono ?_; rintro e w' ⟨rfl, y, rfl⟩
        go_wp2_with fail
        refine wp_region_grows (by kernel_rfl) (by kernel_rfl) ?_
        repeat (go_big_quiet_step ((first | (go_at_call_of 42 (Value.agg #[.int .i64 b.hx, .int .i64 b.hy, .int .i64 b.hz]); exact Calls.quiet_ext (coord0_c _ _ _ _)) | (go_at_call_of 42 (Value.agg #[.int .i64 a.lx, .int .i64 a.ly, .int .i64 a.lz]); exact Calls.quiet_ext (coord0_c _ _ _ _)))))
        refine wpQuiet_nil ?_; rintro _ ⟨xq, rfl⟩
        go_wp2_with fail
        go_at_call 43; refine (with0_c _ _ _ _ _).mono ?_; rintro e w' ⟨rfl, y, rfl⟩
        go_wp2_with fail
        go_at_call 43; refine (with0_c _ _ _ _ _).mono ?_; rintro e w' ⟨rfl, y, rfl⟩
        go_wp2_with fail
        go_roundw
        case rel => exact ⟨1, by omega, rfl, by rw [show pc a b 1 0 0 = _ from E1.out, show pc a b 1 1 1 = 0 from rfl, show pc a b 1 2 2 = 0 from rfl, show qc a b 1 0 0 = _ from E2.out, show qc a b 1 1 1 = 0 from rfl, show qc a b 1 2 2 = 0 from rfl]; exact ⟨_, by simp only [ext_ext]; rfl⟩⟩
        case measure => simp [intOf]
      · have E1 := Lib.hid e
        have E2 := Lib.hid f
        clear e f
        go_wp2_with fail
        refine wp_region_grows (by kernel_rfl) (by kernel_rfl) ?_
        repeat (go_big_quiet_step ((first | (go_at_call_of 42 (Value.agg #[.int .i64 a.lx, .int .i64 a.ly, .int .i64 a.lz]); exact Calls.quiet_ext (coord0_c _ _ _ _)) | (go_at_call_of 42 (Value.agg #[.int .i64 b.lx, .int .i64 b.ly, .int .i64 b.lz]); exact Calls.quiet_ext (coord0_c _ _ _ _)))))
        refine wpQuiet_nil ?_; rintro _ ⟨xq, rfl⟩
        go_wp2_with fail
        refine wp_region_grows (by kernel_rfl) (by kernel_rfl) ?_
        repeat (go_big_quiet_step ((first | (go_at_call_of 42 (Value.agg #[.int .i64 a.hx, .int .i64 a.hy, .int .i64 a.hz]); exact Calls.quiet_ext (coord0_c _ _ _ _)) | (go_at_call_of 42 (Value.agg #[.int .i64 b.lx, .int .i64 b.ly, .int .i64 b.lz]); exact Calls.quiet_ext (coord0_c _ _ _ _)))))
        refine wpQuiet_nil ?_; rintro _ ⟨xq, rfl⟩
        go_wp2_with fail
        refine wp_region_grows (by kernel_rfl) (by kernel_rfl) ?_
        repeat (go_big_quiet_step ((first | (go_at_call_of 42 (Value.agg #[.int .i64 b.hx, .int .i64 b.hy, .int .i64 b.hz]); exact Calls.quiet_ext (coord0_c _ _ _ _)) | (go_at_call_of 42 (Value.agg #[.int .i64 a.lx, .int .i64 a.ly, .int .i64 a.lz]); exact Calls.quiet_ext (coord0_c _ _ _ _)))))
        refine wpQuiet_nil ?_; rintro _ ⟨xq, rfl⟩
        go_wp2_with fail
        go_at_call 42; refine (coord0_c _ _ _ _).mono ?_; rintro e w' ⟨rfl, y, rfl⟩
        go_wp2_with fail
        go_at_call 42; refine (coord0_c _ _ _ _).mono ?_; rintro e w' ⟨rfl, y, rfl⟩
        go_wp2_with fail
        go_at_call 43; refine (with0_c _ _ _ _ _).mono ?_; rintro e w' ⟨rfl, y, rfl⟩
        go_wp2_with fail
        go_at_call 43; refine (with0_c _ _ _ _ _).mono ?_; rintro e w' ⟨rfl, y, rfl⟩
        go_wp2_with fail
        go_roundw
        case rel => exact ⟨1, by omega, rfl, by rw [show pc a b 1 0 0 = _ from E1.out, show pc a b 1 1 1 = 0 from rfl, show pc a b 1 2 2 = 0 from rfl, show qc a b 1 0 0 = _ from E2.out, show qc a b 1 1 1 = 0 from rfl, show qc a b 1 2 2 = 0 from rfl]; exact ⟨_, by simp only [ext_ext]; rfl⟩⟩
        case measure => simp [intOf]
      · have E1 := Lib.hid e
        have E2 := Lib.hid f
        clear e f
        go_wp2_with fail
        refine wp_region_grows (by kernel_rfl) (by kernel_rfl) ?_
        repeat (go_big_quiet_step ((first | (go_at_call_of 42 (Value.agg #[.int .i64 a.lx, .int .i64 a.ly, .int .i64 a.lz]); exact Calls.quiet_ext (coord0_c _ _ _ _)) | (go_at_call_of 42 (Value.agg #[.int .i64 b.lx, .int .i64 b.ly, .int .i64 b.lz]); exact Calls.quiet_ext (coord0_c _ _ _ _)))))
        refine wpQuiet_nil ?_; rintro _ ⟨xq, rfl⟩
        go_wp2_with fail
        refine wp_region_grows (by kernel_rfl) (by kernel_rfl) ?_
        repeat (go_big_quiet_step ((first | (go_at_call_of 42 (Value.agg #[.int .i64 a.hx, .int .i64 a.hy, .int .i64 a.hz]); exact Calls.quiet_ext (coord0_c _ _ _ _)) | (go_at_call_of 42 (Value.agg #[.int .i64 b.lx, .int .i64 b.ly, .int .i64 b.lz]); exact Calls.quiet_ext (coord0_c _ _ _ _)))))
        refine wpQuiet_nil ?_; rintro _ ⟨xq, rfl⟩
        go_wp2_with fail
        refine wp_region_grows (by kernel_rfl) (by kernel_rfl) ?_
        repeat (go_big_quiet_step ((first | (go_at_call_of 42 (Value.agg #[.int .i64 b.hx, .int .i64 b.hy, .int .i64 b.hz]); exact Calls.quiet_ext (coord0_c _ _ _ _)) | (go_at_call_of 42 (Value.agg #[.int .i64 a.lx, .int .i64 a.ly, .int .i64 a.lz]); exact Calls.quiet_ext (coord0_c _ _ _ _)))))
        refine wpQuiet_nil ?_; rintro _ ⟨xq, rfl⟩
        go_wp2_with fail
        go_at_call 43; refine (with0_c _ _ _ _ _).mono ?_; rintro e w' ⟨rfl, y, rfl⟩
        go_wp2_with fail
        go_at_call 43; refine (with0_c _ _ _ _ _).mono ?_; rintro e w' ⟨rfl, y, rfl⟩
        go_wp2_with fail
        go_roundw
        case rel => exact ⟨1, by omega, rfl, by rw [show pc a b 1 0 0 = _ from E1.out, show pc a b 1 1 1 = 0 from rfl, show pc a b 1 2 2 = 0 from rfl, show qc a b 1 0 0 = _ from E2.out, show qc a b 1 1 1 = 0 from rfl, show qc a b 1 2 2 = 0 from rfl]; exact ⟨_, by simp only [ext_ext]; rfl⟩⟩
        case measure => simp [intOf]
    · rw [show pc a b 1 0 0 = (nearP a b 0).1 from rfl, show pc a b 1 1 1 = 0 from rfl, show pc a b 1 2 2 = 0 from rfl, show qc a b 1 0 0 = (nearP a b 0).2 from rfl, show qc a b 1 1 1 = 0 from rfl, show qc a b 1 2 2 = 0 from rfl]
      rcases near_tri a.ly a.hy b.ly b.hy with ⟨g, e, f⟩ | ⟨g, g', e, f⟩ | ⟨g, g', e, f⟩
      · have E1 := Lib.hid e
        have E2 := Lib.hid f
        clear e f
        go_wp2_with fail
        refine wp_region_grows (by kernel_rfl) (by kernel_rfl) ?_
        repeat (go_big_quiet_step ((first | (go_at_call_of 42 (Value.agg #[.int .i64 a.lx, .int .i64 a.ly, .int .i64 a.lz]); exact Calls.quiet_ext (coord1_c _ _ _ _)) | (go_at_call_of 42 (Value.agg #[.int .i64 b.lx, .int .i64 b.ly, .int .i64 b.lz]); exact Calls.quiet_ext (coord1_c _ _ _ _)))))
        refine wpQuiet_nil ?_; rintro _ ⟨xq, rfl⟩
        go_wp2_with fail
        refine wp_region_grows (by kernel_rfl) (by kernel_rfl) ?_
        repeat (go_big_quiet_step ((first | (go_at_call_of 42 (Value.agg #[.int .i64 a.hx, .int .i64 a.hy, .int .i64 a.hz]); exact Calls.quiet_ext (coord1_c _ _ _ _)) | (go_at_call_of 42 (Value.agg #[.int .i64 b.lx, .int .i64 b.ly, .int .i64 b.lz]); exact Calls.quiet_ext (coord1_c _ _ _ _)))))
        refine wpQuiet_nil ?_; rintro _ ⟨xq, rfl⟩
        go_wp2_with fail
        go_at_call 42; refine (coord1_c _ _ _ _).mono ?_; rintro e w' ⟨rfl, y, rfl⟩
        go_wp2_with fail
        go_at_call 42; refine (coord1_c _ _ _ _).mono ?_; rintro e w' ⟨rfl, y, rfl⟩
        go_wp2_with fail
        refine wp_region_grows (by kernel_rfl) (by kernel_rfl) ?_
        repeat (go_big_quiet_step ((first | (go_at_call_of 42 (Value.agg #[.int .i64 b.hx, .int .i64 b.hy, .int .i64 b.hz]); exact Calls.quiet_ext (coord1_c _ _ _ _)) | (go_at_call_of 42 (Value.agg #[.int .i64 a.lx, .int .i64 a.ly, .int .i64 a.lz]); exact Calls.quiet_ext (coord1_c _ _ _ _)))))
        refine wpQuiet_nil ?_; rintro _ ⟨xq, rfl⟩
        go_wp2_with fail
        go_at_call 43; refine (with1_c _ _ _ _ _).mono ?_; rintro e w' ⟨rfl, y, rfl⟩
        go_wp2_with fail
        go_at_call 43; refine (with1_c _ _ _ _ _).mono ?_; rintro e w' ⟨rfl, y, rfl⟩
        go_wp2_with fail
        go_roundw
        case rel => exact ⟨2, by omega, rfl, by rw [show pc a b 2 0 0 = (nearP a b 0).1 from rfl, show pc a b 2 1 1 = _ from E1.out, show pc a b 2 2 2 = 0 from rfl, show qc a b 2 0 0 = (nearP a b 0).2 from rfl, show qc a b 2 1 1 = _ from E2.out, show qc a b 2 2 2 = 0 from rfl]; exact ⟨_, by simp only [ext_ext]; rfl⟩⟩
        case measure => simp [intOf]
      · have E1 := Lib.hid e
        have E2 := Lib.hid f
        clear e f
        go_wp2_with fail
        refine wp_region_grows (by kernel_rfl) (by kernel_rfl) ?_
        repeat (go_big_quiet_step ((first | (go_at_call_of 42 (Value.agg #[.int .i64 a.lx, .int .i64 a.ly, .int .i64 a.lz]); exact Calls.quiet_ext (coord1_c _ _ _ _)) | (go_at_call_of 42 (Value.agg #[.int .i64 b.lx, .int .i64 b.ly, .int .i64 b.lz]); exact Calls.quiet_ext (coord1_c _ _ _ _)))))
        refine wpQuiet_nil ?_; rintro _ ⟨xq, rfl⟩
        go_wp2_with fail
        refine wp_region_grows (by kernel_rfl) (by kernel_rfl) ?_
        repeat (go_big_quiet_step ((first | (go_at_call_of 42 (Value.agg #[.int .i64 a.hx, .int .i64 a.hy, .int .i64 a.hz]); exact Calls.quiet_ext (coord1_c _ _ _ _)) | (go_at_call_of 42 (Value.agg #[.int .i64 b.lx, .int .i64 b.ly, .int .i64 b.lz]); exact Calls.quiet_ext (coord1_c _ _ _ _)))))
        refine wpQuiet_nil ?_; rintro _ ⟨xq, rfl⟩
        go_wp2_with fail
        refine wp_region_grows (by kernel_rfl) (by kernel_rfl) ?_
        repeat (go_big_quiet_step ((first | (go_at_call_of 42 (Value.agg #[.int .i64 b.hx, .int .i64 b.hy, .int .i64 b.hz]); exact Calls.quiet_ext (coord1_c _ _ _ _)) | (go_at_call_of 42 (Value.agg #[.int .i64 a.lx, .int .i64 a.ly, .int .i64 a.lz]); exact Calls.quiet_ext (coord1_c _ _ _ _)))))
        refine wpQuiet_nil ?_; rintro _ ⟨xq, rfl⟩
        go_wp2_with fail
        go_at_call 42; refine (coord1_c _ _ _ _).mono ?_; rintro e w' ⟨rfl, y, rfl⟩
        go_wp2_with fail
        go_at_call 42; refine (coord1_c _ _ _ _).mono ?_; rintro e w' ⟨rfl, y, rfl⟩
        go_wp2_with fail
        go_at_call 43; refine (with1_c _ _ _ _ _).mono ?_; rintro e w' ⟨rfl, y, rfl⟩
        go_wp2_with fail
        go_at_call 43; refine (with1_c _ _ _ _ _).mono ?_; rintro e w' ⟨rfl, y, rfl⟩
        go_wp2_with fail
        go_roundw
        case rel => exact ⟨2, by omega, rfl, by rw [show pc a b 2 0 0 = (nearP a b 0).1 from rfl, show pc a b 2 1 1 = _ from E1.out, show pc a b 2 2 2 = 0 from rfl, show qc a b 2 0 0 = (nearP a b 0).2 from rfl, show qc a b 2 1 1 = _ from E2.out, show qc a b 2 2 2 = 0 from rfl]; exact ⟨_, by simp only [ext_ext]; rfl⟩⟩
        case measure => simp [intOf]
      · have E1 := Lib.hid e
        have E2 := Lib.hid f
        clear e f
        go_wp2_with fail
        refine wp_region_grows (by kernel_rfl) (by kernel_rfl) ?_
        repeat (go_big_quiet_step ((first | (go_at_call_of 42 (Value.agg #[.int .i64 a.lx, .int .i64 a.ly, .int .i64 a.lz]); exact Calls.quiet_ext (coord1_c _ _ _ _)) | (go_at_call_of 42 (Value.agg #[.int .i64 b.lx, .int .i64 b.ly, .int .i64 b.lz]); exact Calls.quiet_ext (coord1_c _ _ _ _)))))
        refine wpQuiet_nil ?_; rintro _ ⟨xq, rfl⟩
        go_wp2_with fail
        refine wp_region_grows (by kernel_rfl) (by kernel_rfl) ?_
        repeat (go_big_quiet_step ((first | (go_at_call_of 42 (Value.agg #[.int .i64 a.hx, .int .i64 a.hy, .int .i64 a.hz]); exact Calls.quiet_ext (coord1_c _ _ _ _)) | (go_at_call_of 42 (Value.agg #[.int .i64 b.lx, .int .i64 b.ly, .int .i64 b.lz]); exact Calls.quiet_ext (coord1_c _ _ _ _)))))
        refine wpQuiet_nil ?_; rintro _ ⟨xq, rfl⟩
        go_wp2_with fail
        refine wp_region_grows (by kernel_rfl) (by kernel_rfl) ?_
        repeat (go_big_quiet_step ((first | (go_at_call_of 42 (Value.agg #[.int .i64 b.hx, .int .i64 b.hy, .int .i64 b.hz]); exact Calls.quiet_ext (coord1_c _ _ _ _)) | (go_at_call_of 42 (Value.agg #[.int .i64 a.lx, .int .i64 a.ly, .int .i64 a.lz]); exact Calls.quiet_ext (coord1_c _ _ _ _)))))
        refine wpQuiet_nil ?_; rintro _ ⟨xq, rfl⟩
        go_wp2_with fail
        go_at_call 43; refine (with1_c _ _ _ _ _).mono ?_; rintro e w' ⟨rfl, y, rfl⟩
        go_wp2_with fail
        go_at_call 43; refine (with1_c _ _ _ _ _).mono ?_; rintro e w' ⟨rfl, y, rfl⟩
        go_wp2_with fail
        go_roundw
        case rel => exact ⟨2, by omega, rfl, by rw [show pc a b 2 0 0 = (nearP a b 0).1 from rfl, show pc a b 2 1 1 = _ from E1.out, show pc a b 2 2 2 = 0 from rfl, show qc a b 2 0 0 = (nearP a b 0).2 from rfl, show qc a b 2 1 1 = _ from E2.out, show qc a b 2 2 2 = 0 from rfl]; exact ⟨_, by simp only [ext_ext]; rfl⟩⟩
        case measure => simp [intOf]
    · rw [show pc a b 2 0 0 = (nearP a b 0).1 from rfl, show pc a b 2 1 1 = (nearP a b 1).1 from rfl, show pc a b 2 2 2 = 0 from rfl, show qc a b 2 0 0 = (nearP a b 0).2 from rfl, show qc a b 2 1 1 = (nearP a b 1).2 from rfl, show qc a b 2 2 2 = 0 from rfl]
      rcases near_tri a.lz a.hz b.lz b.hz with ⟨g, e, f⟩ | ⟨g, g', e, f⟩ | ⟨g, g', e, f⟩
      · have E1 := Lib.hid e
        have E2 := Lib.hid f
        clear e f
        go_wp2_with fail
        refine wp_region_grows (by kernel_rfl) (by kernel_rfl) ?_
        repeat (go_big_quiet_step ((first | (go_at_call_of 42 (Value.agg #[.int .i64 a.lx, .int .i64 a.ly, .int .i64 a.lz]); exact Calls.quiet_ext (coord2_c _ _ _ _)) | (go_at_call_of 42 (Value.agg #[.int .i64 b.lx, .int .i64 b.ly, .int .i64 b.lz]); exact Calls.quiet_ext (coord2_c _ _ _ _)))))
        refine wpQuiet_nil ?_; rintro _ ⟨xq, rfl⟩
        go_wp2_with fail
        refine wp_region_grows (by kernel_rfl) (by kernel_rfl) ?_
        repeat (go_big_quiet_step ((first | (go_at_call_of 42 (Value.agg #[.int .i64 a.hx, .int .i64 a.hy, .int .i64 a.hz]); exact Calls.quiet_ext (coord2_c _ _ _ _)) | (go_at_call_of 42 (Value.agg #[.int .i64 b.lx, .int .i64 b.ly, .int .i64 b.lz]); exact Calls.quiet_ext (coord2_c _ _ _ _)))))
        refine wpQuiet_nil ?_; rintro _ ⟨xq, rfl⟩
        go_wp2_with fail
        go_at_call 42; refine (coord2_c _ _ _ _).mono ?_; rintro e w' ⟨rfl, y, rfl⟩
        go_wp2_with fail
        go_at_call 42; refine (coord2_c _ _ _ _).mono ?_; rintro e w' ⟨rfl, y, rfl⟩
        go_wp2_with fail
        refine wp_region_grows (by kernel_rfl) (by kernel_rfl) ?_
        repeat (go_big_quiet_step ((first | (go_at_call_of 42 (Value.agg #[.int .i64 b.hx, .int .i64 b.hy, .int .i64 b.hz]); exact Calls.quiet_ext (coord2_c _ _ _ _)) | (go_at_call_of 42 (Value.agg #[.int .i64 a.lx, .int .i64 a.ly, .int .i64 a.lz]); exact Calls.quiet_ext (coord2_c _ _ _ _)))))
        refine wpQuiet_nil ?_; rintro _ ⟨xq, rfl⟩
        go_wp2_with fail
        go_at_call 43; refine (with2_c _ _ _ _ _).mono ?_; rintro e w' ⟨rfl, y, rfl⟩
        go_wp2_with fail
        go_at_call 43; refine (with2_c _ _ _ _ _).mono ?_; rintro e w' ⟨rfl, y, rfl⟩
        go_wp2_with fail
        go_roundw
        case rel => exact ⟨3, by omega, rfl, by rw [show pc a b 3 0 0 = (nearP a b 0).1 from rfl, show pc a b 3 1 1 = (nearP a b 1).1 from rfl, show pc a b 3 2 2 = _ from E1.out, show qc a b 3 0 0 = (nearP a b 0).2 from rfl, show qc a b 3 1 1 = (nearP a b 1).2 from rfl, show qc a b 3 2 2 = _ from E2.out]; exact ⟨_, by simp only [ext_ext]; rfl⟩⟩
        case measure => simp [intOf]
      · have E1 := Lib.hid e
        have E2 := Lib.hid f
        clear e f
        go_wp2_with fail
        refine wp_region_grows (by kernel_rfl) (by kernel_rfl) ?_
        repeat (go_big_quiet_step ((first | (go_at_call_of 42 (Value.agg #[.int .i64 a.lx, .int .i64 a.ly, .int .i64 a.lz]); exact Calls.quiet_ext (coord2_c _ _ _ _)) | (go_at_call_of 42 (Value.agg #[.int .i64 b.lx, .int .i64 b.ly, .int .i64 b.lz]); exact Calls.quiet_ext (coord2_c _ _ _ _)))))
        refine wpQuiet_nil ?_; rintro _ ⟨xq, rfl⟩
        go_wp2_with fail
        refine wp_region_grows (by kernel_rfl) (by kernel_rfl) ?_
        repeat (go_big_quiet_step ((first | (go_at_call_of 42 (Value.agg #[.int .i64 a.hx, .int .i64 a.hy, .int .i64 a.hz]); exact Calls.quiet_ext (coord2_c _ _ _ _)) | (go_at_call_of 42 (Value.agg #[.int .i64 b.lx, .int .i64 b.ly, .int .i64 b.lz]); exact Calls.quiet_ext (coord2_c _ _ _ _)))))
        refine wpQuiet_nil ?_; rintro _ ⟨xq, rfl⟩
        go_wp2_with fail
        refine wp_region_grows (by kernel_rfl) (by kernel_rfl) ?_
        repeat (go_big_quiet_step ((first | (go_at_call_of 42 (Value.agg #[.int .i64 b.hx, .int .i64 b.hy, .int .i64 b.hz]); exact Calls.quiet_ext (coord2_c _ _ _ _)) | (go_at_call_of 42 (Value.agg #[.int .i64 a.lx, .int .i64 a.ly, .int .i64 a.lz]); exact Calls.quiet_ext (coord2_c _ _ _ _)))))
        refine wpQuiet_nil ?_; rintro _ ⟨xq, rfl⟩
        go_wp2_with fail
        go_at_call 42; refine (coord2_c _ _ _ _).mono ?_; rintro e w' ⟨rfl, y, rfl⟩
        go_wp2_with fail
        go_at_call 42; refine (coord2_c _ _ _ _).mono ?_; rintro e w' ⟨rfl, y, rfl⟩
        go_wp2_with fail
        go_at_call 43; refine (with2_c _ _ _ _ _).mono ?_; rintro e w' ⟨rfl, y, rfl⟩
        go_wp2_with fail
        go_at_call 43; refine (with2_c _ _ _ _ _).mono ?_; rintro e w' ⟨rfl, y, rfl⟩
        go_wp2_with fail
        go_roundw
        case rel => exact ⟨3, by omega, rfl, by rw [show pc a b 3 0 0 = (nearP a b 0).1 from rfl, show pc a b 3 1 1 = (nearP a b 1).1 from rfl, show pc a b 3 2 2 = _ from E1.out, show qc a b 3 0 0 = (nearP a b 0).2 from rfl, show qc a b 3 1 1 = (nearP a b 1).2 from rfl, show qc a b 3 2 2 = _ from E2.out]; exact ⟨_, by simp only [ext_ext]; rfl⟩⟩
        case measure => simp [intOf]
      · have E1 := Lib.hid e
        have E2 := Lib.hid f
        clear e f
        go_wp2_with fail
        refine wp_region_grows (by kernel_rfl) (by kernel_rfl) ?_
        repeat (go_big_quiet_step ((first | (go_at_call_of 42 (Value.agg #[.int .i64 a.lx, .int .i64 a.ly, .int .i64 a.lz]); exact Calls.quiet_ext (coord2_c _ _ _ _)) | (go_at_call_of 42 (Value.agg #[.int .i64 b.lx, .int .i64 b.ly, .int .i64 b.lz]); exact Calls.quiet_ext (coord2_c _ _ _ _)))))
        refine wpQuiet_nil ?_; rintro _ ⟨xq, rfl⟩
        go_wp2_with fail
        refine wp_region_grows (by kernel_rfl) (by kernel_rfl) ?_
        repeat (go_big_quiet_step ((first | (go_at_call_of 42 (Value.agg #[.int .i64 a.hx, .int .i64 a.hy, .int .i64 a.hz]); exact Calls.quiet_ext (coord2_c _ _ _ _)) | (go_at_call_of 42 (Value.agg #[.int .i64 b.lx, .int .i64 b.ly, .int .i64 b.lz]); exact Calls.quiet_ext (coord2_c _ _ _ _)))))
        refine wpQuiet_nil ?_; rintro _ ⟨xq, rfl⟩
        go_wp2_with fail
        refine wp_region_grows (by kernel_rfl) (by kernel_rfl) ?_
        repeat (go_big_quiet_step ((first | (go_at_call_of 42 (Value.agg #[.int .i64 b.hx, .int .i64 b.hy, .int .i64 b.hz]); exact Calls.quiet_ext (coord2_c _ _ _ _)) | (go_at_call_of 42 (Value.agg #[.int .i64 a.lx, .int .i64 a.ly, .int .i64 a.lz]); exact Calls.quiet_ext (coord2_c _ _ _ _)))))
        refine wpQuiet_nil ?_; rintro _ ⟨xq, rfl⟩
        go_wp2_with fail
        go_at_call 43; refine (with2_c _ _ _ _ _).mono ?_; rintro e w' ⟨rfl, y, rfl⟩
        go_wp2_with fail
        go_at_call 43; refine (with2_c _ _ _ _ _).mono ?_; rintro e w' ⟨rfl, y, rfl⟩
        go_wp2_with fail
        go_roundw
        case rel => exact ⟨3, by omega, rfl, by rw [show pc a b 3 0 0 = (nearP a b 0).1 from rfl, show pc a b 3 1 1 = (nearP a b 1).1 from rfl, show pc a b 3 2 2 = _ from E1.out, show qc a b 3 0 0 = (nearP a b 0).2 from rfl, show qc a b 3 1 1 = (nearP a b 1).2 from rfl, show qc a b 3 2 2 = _ from E2.out]; exact ⟨_, by simp only [ext_ext]; rfl⟩⟩
        case measure => simp [intOf]
    · rw [show pc a b 3 0 0 = (nearP a b 0).1 from rfl, show pc a b 3 1 1 = (nearP a b 1).1 from rfl, show pc a b 3 2 2 = (nearP a b 2).1 from rfl, show qc a b 3 0 0 = (nearP a b 0).2 from rfl, show qc a b 3 1 1 = (nearP a b 1).2 from rfl, show qc a b 3 2 2 = (nearP a b 2).2 from rfl]
      go_wp2_with fail
      go_region
      go_wp2
      unfold refNearV
      refine bodyPost_ret (v := .tuple #[(.agg #[.int .i64 (nearP a b 0).1, .int .i64 (nearP a b 1).1, .int .i64 (nearP a b 2).1]), (.agg #[.int .i64 (nearP a b 0).2, .int .i64 (nearP a b 1).2, .int .i64 (nearP a b 2).2])]) (by simp [results, Try.results15, go_sem]) rfl ?_
      exact Ret.of (by (repeat (first | exact grow_refl _ | refine grow_ext _ ?_ | refine grow_alloc _ ?_ | refine grow_drew ?_)))

end Go.Proofs.Ytmmhplmomahfhaa

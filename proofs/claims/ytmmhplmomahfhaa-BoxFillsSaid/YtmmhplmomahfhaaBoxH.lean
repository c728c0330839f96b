/- box.Nearest. -/
import Derived.Test.YtmmhplmomahfhaaBoxG
import Derived.Test.YtmmhplmomahfhaaTail
namespace Go.Proofs.Ytmmhplmomahfhaa
open Go.RowKit

/-- The coordinates of the nearest points along an axis, by the ends of both boxes. -/
def nearI (al ah bl bh : Int) : Int × Int := if ah < bl then (ah, bl) else if bh < al then (al, bh) else (max al bl, max al bl)
def nearP (a b : Bx) (k : Int) : Int × Int := nearI (a.lo k) (a.hi k) (b.lo k) (b.hi k)
theorem near_tri (al ah bl bh : Int) : (ah < bl ∧ (nearI al ah bl bh).1 = ah ∧ (nearI al ah bl bh).2 = bl) ∨ (bl ≤ ah ∧ bh < al ∧ (nearI al ah bl bh).1 = al ∧ (nearI al ah bl bh).2 = bh) ∨
    (bl ≤ ah ∧ al ≤ bh ∧ (nearI al ah bl bh).1 = max al bl ∧ (nearI al ah bl bh).2 = max al bl) := by
  unfold nearI
  by_cases h1 : ah < bl
  · rw [if_pos h1]; exact .inl ⟨h1, rfl, rfl⟩
  · rw [if_neg h1]
    by_cases h2 : bh < al
    · rw [if_pos h2]; exact .inr (.inl ⟨by omega, h2, rfl, rfl⟩)
    · rw [if_neg h2]; exact .inr (.inr ⟨by omega, by omega, rfl, rfl⟩)

set_option maxHeartbeats 400000 in
theorem point_c (x y z : Int) (w : World) : Calls Try.prog 40 #[(.agg #[.int .i64 x, .int .i64 y, .int .i64 z])] w (Ret w (.agg #[.int .i64 x, .int .i64 y, .int .i64 z])) := by
  go_enter Try.func40, Try.ntmps40
  go_wp2
  refine bodyPost_ret (v := (.agg #[.int .i64 x, .int .i64 y, .int .i64 z])) (by simp [results, Try.results40, go_sem]) rfl ?_
  exact Ret.of (by (repeat (first | exact grow_refl _ | refine grow_ext _ ?_ | refine grow_alloc _ ?_ | refine grow_drew ?_)))

def nearV (a b : Bx) : Value := .tuple #[(.agg #[.int .i64 (nearP a b 0).1, .int .i64 (nearP a b 1).1, .int .i64 (nearP a b 2).1]), (.agg #[.int .i64 (nearP a b 0).2, .int .i64 (nearP a b 1).2, .int .i64 (nearP a b 2).2]), .int .i64 0]

/-- What the two points hold after k axes. -/
def pc (a b : Bx) (k j : Nat) (i : Int) : Int := if j < k then (nearP a b i).1 else 0
def qc (a b : Bx) (k j : Nat) (i : Int) : Int := if j < k then (nearP a b i).2 else 0
theorem ext_refl (w : World) : ∃ x, w = ext w x := ext_of (Below.refl _ _)

set_option maxRecDepth 100000 in
set_option maxHeartbeats 8000000 in
theorem Nearest_ok (a b : Bx) (ha : validB a = true) (hb : validB b = true) (w : World) :
    Calls Try.prog 13 #[(.agg #[.int .i64 a.lx, .int .i64 a.ly, .int .i64 a.lz, .int .i64 a.hx, .int .i64 a.hy, .int .i64 a.hz]), (.agg #[.int .i64 b.lx, .int .i64 b.ly, .int .i64 b.lz, .int .i64 b.hx, .int .i64 b.hy, .int .i64 b.hz])] w (Ret w (nearV a b)) := by
  go_enter Try.func13, Try.ntmps13
  go_wp2_with fail
  go_at_call 22; refine (valid_v a _ ha _).mono ?_; rintro e w' ⟨rfl, x1, rfl⟩
  go_wp2_with fail
  go_at_call 22; refine (valid_v b _ hb _).mono ?_; rintro e w' ⟨rfl, x2, rfl⟩
  go_wp2_with fail
  clear ha hb
  go_loopw [24] (fun i wr => ∃ k : Nat, k ≤ 3 ∧ i = .int .i64 k ∧ ∃ x, wr = ext (((ext (ext ((((w.alloc (.cells #[.int .i64 a.lx, .int .i64 a.ly, .int .i64 a.lz, .int .i64 a.hx, .int .i64 a.hy, .int .i64 a.hz] 25)).alloc (.cells #[.int .i64 b.lx, .int .i64 b.ly, .int .i64 b.lz, .int .i64 b.hx, .int .i64 b.hy, .int .i64 b.hz] 25)).alloc (.cells #[.int .i64 0, .int .i64 0, .int .i64 0] 23)).alloc (.cells #[.int .i64 0, .int .i64 0, .int .i64 0] 23)) x1) x2).alloc (.cells #[.int .i64 (pc a b k 0 0), .int .i64 (pc a b k 1 1), .int .i64 (pc a b k 2 2)] 63)).alloc (.cells #[.int .i64 (qc a b k 0 0), .int .i64 (qc a b k 1 1), .int .i64 (qc a b k 2 2)] 63)) x) (fun i _ => 3 - (intOf i).toNat)
  case atStart => exact ⟨0, by omega, rfl, ext_refl _⟩
  case round =>
    obtain ⟨k, hk, rfl, x3, rfl⟩ := hrel
    have hk3 : k = 0 ∨ k = 1 ∨ k = 2 ∨ k = 3 := by omega
    rcases hk3 with rfl | rfl | rfl | rfl
    · rw [show pc a b 0 0 0 = 0 from rfl, show pc a b 0 1 1 = 0 from rfl, show pc a b 0 2 2 = 0 from rfl, show qc a b 0 0 0 = 0 from rfl, show qc a b 0 1 1 = 0 from rfl, show qc a b 0 2 2 = 0 from rfl]
      rcases near_tri a.lx a.hx b.lx b.hx with ⟨g, e, f⟩ | ⟨g, g', e, f⟩ | ⟨g, g', e, f⟩
      all_goals
        have E1 := Lib.hid e
        have E2 := Lib.hid f
        clear e f
        go_wp2_with fail
        go_at_call 39; refine (ends0_c a _).mono ?_; rintro e w' ⟨rfl, x4, rfl⟩
        go_wp2_with fail
        go_at_call 39; refine (ends0_c b _).mono ?_; rintro e w' ⟨rfl, x5, rfl⟩
        go_wp2_with fail
        go_roundw
        case rel => exact ⟨1, by omega, rfl, by rw [show pc a b 1 0 0 = _ from E1.out, show pc a b 1 1 1 = 0 from rfl, show pc a b 1 2 2 = 0 from rfl, show qc a b 1 0 0 = _ from E2.out, show qc a b 1 1 1 = 0 from rfl, show qc a b 1 2 2 = 0 from rfl]; exact ⟨_, by rw [ext_ext, ext_ext]⟩⟩
        case measure => simp [intOf]
    · rw [show pc a b 1 0 0 = (nearP a b 0).1 from rfl, show pc a b 1 1 1 = 0 from rfl, show pc a b 1 2 2 = 0 from rfl, show qc a b 1 0 0 = (nearP a b 0).2 from rfl, show qc a b 1 1 1 = 0 from rfl, show qc a b 1 2 2 = 0 from rfl]
      rcases near_tri a.ly a.hy b.ly b.hy with ⟨g, e, f⟩ | ⟨g, g', e, f⟩ | ⟨g, g', e, f⟩
      all_goals
        have E1 := Lib.hid e
        have E2 := Lib.hid f
        clear e f
        go_wp2_with fail
        go_at_call 39; refine (ends1_c a _).mono ?_; rintro e w' ⟨rfl, x4, rfl⟩
        go_wp2_with fail
        go_at_call 39; refine (ends1_c b _).mono ?_; rintro e w' ⟨rfl, x5, rfl⟩
        go_wp2_with fail
        go_roundw
        case rel => exact ⟨2, by omega, rfl, by rw [show pc a b 2 0 0 = (nearP a b 0).1 from rfl, show pc a b 2 1 1 = _ from E1.out, show pc a b 2 2 2 = 0 from rfl, show qc a b 2 0 0 = (nearP a b 0).2 from rfl, show qc a b 2 1 1 = _ from E2.out, show qc a b 2 2 2 = 0 from rfl]; exact ⟨_, by rw [ext_ext, ext_ext]⟩⟩
        case measure => simp [intOf]
    · rw [show pc a b 2 0 0 = (nearP a b 0).1 from rfl, show pc a b 2 1 1 = (nearP a b 1).1 from rfl, show pc a b 2 2 2 = 0 from rfl, show qc a b 2 0 0 = (nearP a b 0).2 from rfl, show qc a b 2 1 1 = (nearP a b 1).2 from rfl, show qc a b 2 2 2 = 0 from rfl]
      rcases near_tri a.lz a.hz b.lz b.hz with ⟨g, e, f⟩ | ⟨g, g', e, f⟩ | ⟨g, g', e, f⟩
      all_goals
        have E1 := Lib.hid e
        have E2 := Lib.hid f
        clear e f
        go_wp2_with fail
        go_at_call 39; refine (ends2_c a _).mono ?_; rintro e w' ⟨rfl, x4, rfl⟩
        go_wp2_with fail
        go_at_call 39; refine (ends2_c b _).mono ?_; rintro e w' ⟨rfl, x5, rfl⟩
        go_wp2_with fail
        go_roundw
        case rel => exact ⟨3, by omega, rfl, by rw [show pc a b 3 0 0 = (nearP a b 0).1 from rfl, show pc a b 3 1 1 = (nearP a b 1).1 from rfl, show pc a b 3 2 2 = _ from E1.out, show qc a b 3 0 0 = (nearP a b 0).2 from rfl, show qc a b 3 1 1 = (nearP a b 1).2 from rfl, show qc a b 3 2 2 = _ from E2.out]; exact ⟨_, by rw [ext_ext, ext_ext]⟩⟩
        case measure => simp [intOf]
    · rw [show pc a b 3 0 0 = (nearP a b 0).1 from rfl, show pc a b 3 1 1 = (nearP a b 1).1 from rfl, show pc a b 3 2 2 = (nearP a b 2).1 from rfl, show qc a b 3 0 0 = (nearP a b 0).2 from rfl, show qc a b 3 1 1 = (nearP a b 1).2 from rfl, show qc a b 3 2 2 = (nearP a b 2).2 from rfl]
      go_wp2_with fail
      refine wp_region_tail 4 (by kernel_rfl) (by kernel_rfl) ?_; simp only [List.take_succ_cons, List.take_zero, List.drop_succ_cons, List.drop_zero]
      repeat (go_big_quiet_step ((go_at_call 40; exact Calls.quiet_ext (point_c _ _ _ _))))
      refine wpQuiet_nil ?_; rintro _ ⟨xq, rfl⟩
      go_wp2
      unfold nearV
      refine bodyPost_ret (v := .tuple #[(.agg #[.int .i64 (nearP a b 0).1, .int .i64 (nearP a b 1).1, .int .i64 (nearP a b 2).1]), (.agg #[.int .i64 (nearP a b 0).2, .int .i64 (nearP a b 1).2, .int .i64 (nearP a b 2).2]), .int .i64 0]) (by simp [results, Try.results13, go_sem]) rfl ?_
      exact Ret.of (by (repeat (first | exact grow_refl _ | refine grow_ext _ ?_ | refine grow_alloc _ ?_ | refine grow_drew ?_)))

end Go.Proofs.Ytmmhplmomahfhaa

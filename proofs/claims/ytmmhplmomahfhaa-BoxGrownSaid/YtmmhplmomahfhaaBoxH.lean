/- box.Nearest. -/
import Derived.Test.YtmmhplmomahfhaaBoxG
import Derived.Test.YtmmhplmomahfhaaTail
namespace Go.Proofs.Ytmmhplmomahfhaa
open Go.RowKit

/-- The coordinates of the nearest points along an axis. -/
def nearP (a b : Bx) (k : Int) : Int × Int :=
  if a.hi k < b.lo k then (a.hi k, b.lo k) else if b.hi k < a.lo k then (a.lo k, b.hi k) else (max (a.lo k) (b.lo k), max (a.lo k) (b.lo k))
theorem nearP_tri (a b : Bx) (k : Int) : (a.hi k < b.lo k ∧ nearP a b k = (a.hi k, b.lo k)) ∨ (b.lo k ≤ a.hi k ∧ b.hi k < a.lo k ∧ nearP a b k = (a.lo k, b.hi k)) ∨
    (b.lo k ≤ a.hi k ∧ a.lo k ≤ b.hi k ∧ nearP a b k = (max (a.lo k) (b.lo k), max (a.lo k) (b.lo k))) := by
  unfold nearP
  by_cases h1 : a.hi k < b.lo k
  · exact .inl ⟨h1, if_pos h1⟩
  · rw [if_neg h1]
    by_cases h2 : b.hi k < a.lo k
    · exact .inr (.inl ⟨by omega, h2, if_pos h2⟩)
    · exact .inr (.inr ⟨by omega, by omega, if_neg h2⟩)

set_option maxHeartbeats 400000 in
theorem point_c (x y z : Int) (w : World) : Calls Try.prog 40 #[(.agg #[.int .i64 x, .int .i64 y, .int .i64 z])] w (Ret w (.agg #[.int .i64 x, .int .i64 y, .int .i64 z])) := by
  go_enter Try.func40, Try.ntmps40
  go_wp2
  refine bodyPost_ret (v := (.agg #[.int .i64 x, .int .i64 y, .int .i64 z])) (by simp [results, Try.results40, go_sem]) rfl ?_
  exact Ret.of (by (repeat (first | exact grow_refl _ | refine grow_ext _ ?_ | refine grow_alloc _ ?_ | refine grow_drew ?_)))

def nearV (a b : Bx) : Value := .tuple #[(.agg #[.int .i64 (nearP a b 0).1, .int .i64 (nearP a b 1).1, .int .i64 (nearP a b 2).1]), (.agg #[.int .i64 (nearP a b 0).2, .int .i64 (nearP a b 1).2, .int .i64 (nearP a b 2).2]), .int .i64 0]

/-- What the two points hold after k axes. -/
def pc (a b : Bx) (k j : Nat) (i : Int) : Int := if j < k then (nearP a b i).1 else 0
def qc (a b : Bx) (k j : Nat) (i : Int) : Int := if j < k then (nearP a b i).2 else 0
theorem ext_refl (w : World) : ∃ x, w = ext w x := ext_of (Below.refl _ _)

set_option maxRecDepth 100000 in
set_option maxHeartbeats 8000000 in
theorem Nearest_ok (a b : Bx) (ha : validB a = true) (hb : validB b = true) (w : World) :
    Calls Try.prog 13 #[(.agg #[.int .i64 a.lx, .int .i64 a.ly, .int .i64 a.lz, .int .i64 a.hx, .int .i64 a.hy, .int .i64 a.hz]), (.agg #[.int .i64 b.lx, .int .i64 b.ly, .int .i64 b.lz, .int .i64 b.hx, .int .i64 b.hy, .int .i64 b.hz])] w (Ret w (nearV a b)) := by
  go_enter Try.func13, Try.ntmps13
  go_wp2_with fail
  go_at_call 22; refine (valid_v a _ ha _).mono ?_; rintro e w' ⟨rfl, x1, rfl⟩
  go_wp2_with fail
  go_at_call 22; refine (valid_v b _ hb _).mono ?_; rintro e w' ⟨rfl, x2, rfl⟩
  go_wp2_with fail
  clear ha hb
  go_loopw [24] (fun i wr => ∃ k : Nat, k ≤ 3 ∧ i = .int .i64 k ∧ ∃ x, wr = ext (((ext (ext ((((w.alloc (.cells #[.int .i64 a.lx, .int .i64 a.ly, .int .i64 a.lz, .int .i64 a.hx, .int .i64 a.hy, .int .i64 a.hz] 25)).alloc (.cells #[.int .i64 b.lx, .int .i64 b.ly, .int .i64 b.lz, .int .i64 b.hx, .int .i64 b.hy, .int .i64 b.hz] 25)).alloc (.cells #[.int .i64 0, .int .i64 0, .int .i64 0] 23)).alloc (.cells #[.int .i64 0, .int .i64 0, .int .i64 0] 23)) x1) x2).alloc (.cells #[.int .i64 (pc a b k 0 0), .int .i64 (pc a b k 1 1), .int .i64 (pc a b k 2 2)] 63)).alloc (.cells #[.int .i64 (qc a b k 0 0), .int .i64 (qc a b k 1 1), .int .i64 (qc a b k 2 2)] 63)) x) (fun i _ => 3 - (intOf i).toNat)
  case atStart => exact ⟨0, by omega, rfl, by simp only [pc, qc, Nat.not_lt_zero, if_false]; exact ext_refl _⟩
  case round =>
    obtain ⟨k, hk, rfl, x3, rfl⟩ := hrel
    have hk3 : k = 0 ∨ k = 1 ∨ k = 2 ∨ k = 3 := by omega
    rcases hk3 with rfl | rfl | rfl | rfl
    · simp only [pc, qc, Nat.reduceLT, if_true, if_false]
      rcases nearP_tri a b 0 with ⟨g, e⟩ | ⟨g, g', e⟩ | ⟨g, g', e⟩
      all_goals
        have E1 := Lib.hid (congrArg Prod.fst e)
        have E2 := Lib.hid (congrArg Prod.snd e)
        clear e
        simp only [Bx.lo, Bx.hi, Int.reduceEq, if_true, if_false] at g E1 E2
        try simp only [Bx.lo, Bx.hi, Int.reduceEq, if_true, if_false] at g'
        go_wp2_with fail
        go_at_call 39; refine (ends0_c a _).mono ?_; rintro e w' ⟨rfl, x4, rfl⟩
        go_wp2_with fail
        go_at_call 39; refine (ends0_c b _).mono ?_; rintro e w' ⟨rfl, x5, rfl⟩
        go_wp2_with fail
        go_roundw
        case rel => exact ⟨1, by omega, rfl, by simp only [pc, qc, Nat.reduceLT, if_true, if_false]; rw [show (nearP a b 0).1 = _ from E1.out, show (nearP a b 0).2 = _ from E2.out]; exact ⟨_, by rw [ext_ext, ext_ext]⟩⟩
        case measure => simp [intOf]
    · simp only [pc, qc, Nat.reduceLT, if_true, if_false]
      rcases nearP_tri a b 1 with ⟨g, e⟩ | ⟨g, g', e⟩ | ⟨g, g', e⟩
      all_goals
        have E1 := Lib.hid (congrArg Prod.fst e)
        have E2 := Lib.hid (congrArg Prod.snd e)
        clear e
        simp only [Bx.lo, Bx.hi, Int.reduceEq, if_true, if_false] at g E1 E2
        try simp only [Bx.lo, Bx.hi, Int.reduceEq, if_true, if_false] at g'
        go_wp2_with fail
        go_at_call 39; refine (ends1_c a _).mono ?_; rintro e w' ⟨rfl, x4, rfl⟩
        go_wp2_with fail
        go_at_call 39; refine (ends1_c b _).mono ?_; rintro e w' ⟨rfl, x5, rfl⟩
        go_wp2_with fail
        go_roundw
        case rel => exact ⟨2, by omega, rfl, by simp only [pc, qc, Nat.reduceLT, if_true, if_false]; rw [show (nearP a b 1).1 = _ from E1.out, show (nearP a b 1).2 = _ from E2.out]; exact ⟨_, by rw [ext_ext, ext_ext]⟩⟩
        case measure => simp [intOf]
    · simp only [pc, qc, Nat.reduceLT, if_true, if_false]
      rcases nearP_tri a b 2 with ⟨g, e⟩ | ⟨g, g', e⟩ | ⟨g, g', e⟩
      all_goals
        have E1 := Lib.hid (congrArg Prod.fst e)
        have E2 := Lib.hid (congrArg Prod.snd e)
        clear e
        simp only [Bx.lo, Bx.hi, Int.reduceEq, if_true, if_false] at g E1 E2
        try simp only [Bx.lo, Bx.hi, Int.reduceEq, if_true, if_false] at g'
        go_wp2_with fail
        go_at_call 39; refine (ends2_c a _).mono ?_; rintro e w' ⟨rfl, x4, rfl⟩
        go_wp2_with fail
        go_at_call 39; refine (ends2_c b _).mono ?_; rintro e w' ⟨rfl, x5, rfl⟩
        go_wp2_with fail
        go_roundw
        case rel => exact ⟨3, by omega, rfl, by simp only [pc, qc, Nat.reduceLT, if_true, if_false]; rw [show (nearP a b 2).1 = _ from E1.out, show (nearP a b 2).2 = _ from E2.out]; exact ⟨_, by rw [ext_ext, ext_ext]⟩⟩
        case measure => simp [intOf]
    · simp only [pc, qc, Nat.reduceLT, if_true]
      go_wp2_with fail
      refine wp_region_tail 4 (by kernel_rfl) (by kernel_rfl) ?_; simp only [List.take_succ_cons, List.take_zero, List.drop_succ_cons, List.drop_zero]
      repeat (go_big_quiet_step ((go_at_call 40; exact Calls.quiet_ext (point_c _ _ _ _))))
      refine wpQuiet_nil ?_; rintro _ ⟨xq, rfl⟩
      go_wp2
      unfold nearV
      refine bodyPost_ret (v := .tuple #[(.agg #[.int .i64 (nearP a b 0).1, .int .i64 (nearP a b 1).1, .int .i64 (nearP a b 2).1]), (.agg #[.int .i64 (nearP a b 0).2, .int .i64 (nearP a b 1).2, .int .i64 (nearP a b 2).2]), .int .i64 0]) (by simp [results, Try.results13, go_sem]) rfl ?_
      exact Ret.of (by (repeat (first | exact grow_refl _ | refine grow_ext _ ?_ | refine grow_alloc _ ?_ | refine grow_drew ?_)))

end Go.Proofs.Ytmmhplmomahfhaa

/- BoxNearest: the walk of the law. -/
import Derived.Test.YtmmhplmomahfhaaAwake
import Derived.Test.YtmmhplmomahfhaaBoxI
import Derived.Test.YtmmhplmomahfhaaPlainN
namespace Go.Proofs.Ytmmhplmomahfhaa
open Go.RowKit

theorem valid_both {a b : Bx} (h : ¬ (validB a = true ∧ validB b = true)) : validB a = false ∨ (validB a = true ∧ validB b = false) := by
  cases ha : validB a <;> cases hb : validB b <;> simp_all

set_option maxRecDepth 100000 in
set_option maxHeartbeats 4000000 in
theorem lawBoxNearest_ok (a b : Bx) (qx qy qz : Int) (ha : validB a = true) (hb : validB b = true) (hx : U16 qx) (hy : U16 qy) (hz : U16 qz) (w : World) :
    Calls Try.prog 5 #[(.agg #[.int .i64 a.lx, .int .i64 a.ly, .int .i64 a.lz, .int .i64 a.hx, .int .i64 a.hy, .int .i64 a.hz]), (.agg #[.int .i64 b.lx, .int .i64 b.ly, .int .i64 b.lz, .int .i64 b.hx, .int .i64 b.hy, .int .i64 b.hz]), .int .u16 qx, .int .u16 qy, .int .u16 qz] w (Ret w (.bool true)) := by
  have HA := Lib.hid ha
  have HB := Lib.hid hb
  have NA := Lib.hid (nearA_valid ha hb)
  have NB := Lib.hid (nearB_valid ha hb)
  have hs : (squareP (nearP a b 0).1 (nearP a b 1).1 (nearP a b 2).1 (nearP a b 0).2 (nearP a b 1).2 (nearP a b 2).2) = squareI a b := square_eq ha hb
  have HS := Lib.hid hs
  have iA := near_inA ha hb
  have iB := near_inB ha hb
  have jA := atI_in ha hx hy hz
  have jB := atI_in hb hz hx hy
  have kB := atI_in hb hx hy hz
  have t1 : decide (squareP (atI a.lx a.hx qx) (atI a.ly a.hy qy) (atI a.lz a.hz qz) (atI b.lx b.hx qz) (atI b.ly b.hy qx) (atI b.lz b.hz qy) < squareI a b) = false := by have := square_le jA jB; simp; omega
  have t2 : decide (squareP (atI a.lx a.hx qx) (atI a.ly a.hy qy) (atI a.lz a.hz qz) (nearP a b 0).2 (nearP a b 1).2 (nearP a b 2).2 < squareI a b) = false := by have := square_le jA iB; simp; omega
  have t3 : decide (squareP (nearP a b 0).1 (nearP a b 1).1 (nearP a b 2).1 (atI b.lx b.hx qx) (atI b.ly b.hy qy) (atI b.lz b.hz qz) < squareI a b) = false := by have := square_le iA kB; simp; omega
  obtain ⟨s0, s1, s2⟩ := nearP_swap ha hb
  have S := Lib.hid (show nearV b a = .tuple #[(.agg #[.int .i64 (nearP a b 0).2, .int .i64 (nearP a b 1).2, .int .i64 (nearP a b 2).2]), (.agg #[.int .i64 (nearP a b 0).1, .int .i64 (nearP a b 1).1, .int .i64 (nearP a b 2).1]), .int .i64 0] by unfold nearV; rw [s0, s1, s2])
  have SS := Lib.hid (square_swap a b)
  have IA := Lib.hid (iA.wide ha)
  have IB := Lib.hid (iB.wide hb)
  have JA := Lib.hid (jA.wide ha)
  have JB := Lib.hid (jB.wide hb)
  have KB := Lib.hid (kB.wide hb)
  clear ha hb hs iA iB jA jB kB s0 s1 s2
  go_enter Try.func5, Try.ntmps5
  go_wp2_with fail
  go_at_call 10; refine (awake_c _).mono ?_; rintro e w' ⟨rfl, x, rfl⟩
  go_wp2_with fail
  go_at_call 13; refine (Nearest_ok a b HA.out HB.out _).mono ?_; rintro e w' ⟨rfl, x, rfl⟩
  unfold nearV
  go_wp2_with fail
  go_at_call 12; refine (Square_ok a b HA.out HB.out _).mono ?_; rintro e w' ⟨rfl, x, rfl⟩
  go_wp2_with fail
  refine wp_region_grows (by kernel_rfl) (by kernel_rfl) ?_
  repeat (go_big_quiet_step (first | (go_at_call 24; exact Calls.quiet_ext (lawPoint_c _ _ _ _)) | (go_at_call 23; exact Calls.quiet_ext (Contains_ok a (nearA a b) HA.out NA.out.1 _))))
  refine wpQuiet_nil ?_; rintro _ ⟨xq, rfl⟩
  rw [NA.out.2]
  go_wp2_with fail
  refine wp_region_grows (by kernel_rfl) (by kernel_rfl) ?_
  repeat (go_big_quiet_step (first | (go_at_call 24; exact Calls.quiet_ext (lawPoint_c _ _ _ _)) | (go_at_call 23; exact Calls.quiet_ext (Contains_ok b (nearB a b) HB.out NB.out.1 _))))
  refine wpQuiet_nil ?_; rintro _ ⟨xq, rfl⟩
  rw [NB.out.2]
  go_wp2_with fail
  go_at_call 25; refine (lawSquare_c _ _ _ _ _ _ IA.out.1 IA.out.2.1 IA.out.2.2 IB.out.1 IB.out.2.1 IB.out.2.2 _).mono ?_; rintro e w' ⟨rfl, x, rfl⟩
  rw [HS.out]
  go_wp2_with fail
  refine wp_region_grows (by kernel_rfl) (by kernel_rfl) ?_
  repeat (go_big_quiet_step (first
    | (go_at_call_of 26 ((Value.agg #[.int .i64 a.lx, .int .i64 a.ly, .int .i64 a.lz, .int .i64 a.hx, .int .i64 a.hy, .int .i64 a.hz])); exact Calls.quiet_ext (within_c a _ _ _ HA.out (by assumption) (by assumption) (by assumption) _))
    | (go_at_call_of 26 ((Value.agg #[.int .i64 b.lx, .int .i64 b.ly, .int .i64 b.lz, .int .i64 b.hx, .int .i64 b.hy, .int .i64 b.hz])); exact Calls.quiet_ext (within_c b _ _ _ HB.out (by assumption) (by assumption) (by assumption) _))
    | (go_at_call_of 25 ((Value.agg #[.int .i64 (atI b.lx b.hx qz), .int .i64 (atI b.ly b.hy qx), .int .i64 (atI b.lz b.hz qy)])); exact Calls.quiet_ext (lawSquare_c _ _ _ _ _ _ JA.out.1 JA.out.2.1 JA.out.2.2 JB.out.1 JB.out.2.1 JB.out.2.2 _))
    | (go_at_call_of 25 ((Value.agg #[.int .i64 (nearP a b 0).2, .int .i64 (nearP a b 1).2, .int .i64 (nearP a b 2).2])); exact Calls.quiet_ext (lawSquare_c _ _ _ _ _ _ JA.out.1 JA.out.2.1 JA.out.2.2 IB.out.1 IB.out.2.1 IB.out.2.2 _))
    | (go_at_call_of 25 ((Value.agg #[.int .i64 (atI b.lx b.hx qx), .int .i64 (atI b.ly b.hy qy), .int .i64 (atI b.lz b.hz qz)])); exact Calls.quiet_ext (lawSquare_c _ _ _ _ _ _ IA.out.1 IA.out.2.1 IA.out.2.2 KB.out.1 KB.out.2.1 KB.out.2.2 _))))
  refine wpQuiet_nil ?_; rintro _ ⟨xq, rfl⟩
  go_wp2_with fail
  go_at_call 13; refine (Nearest_ok b a HB.out HA.out _).mono ?_; rintro e w' ⟨rfl, x, rfl⟩
  rw [S.out]
  go_wp2_with fail
  go_at_call 12; refine (Square_ok b a HB.out HA.out _).mono ?_; rintro e w' ⟨rfl, x, rfl⟩
  rw [SS.out]
  go_wp2
  go_ret
  exact Ret.of (by (repeat (first | exact grow_refl _ | refine grow_ext _ ?_ | refine grow_alloc _ ?_ | refine grow_drew ?_)))

set_option maxRecDepth 100000 in
set_option maxHeartbeats 2000000 in
theorem lawBoxNearest_c (a b : Bx) (qx qy qz : Int) (hx : 0 ≤ qx ∧ qx ≤ 65535) (hy : 0 ≤ qy ∧ qy ≤ 65535) (hz : 0 ≤ qz ∧ qz ≤ 65535) (w : World) :
    Calls Try.prog 5 #[(.agg #[.int .i64 a.lx, .int .i64 a.ly, .int .i64 a.lz, .int .i64 a.hx, .int .i64 a.hy, .int .i64 a.hz]), (.agg #[.int .i64 b.lx, .int .i64 b.ly, .int .i64 b.lz, .int .i64 b.hx, .int .i64 b.hy, .int .i64 b.hz]), .int .u16 qx, .int .u16 qy, .int .u16 qz] w (Ret w (.bool true)) := by
  by_cases hab : validB a = true ∧ validB b = true
  · exact lawBoxNearest_ok a b qx qy qz hab.1 hab.2 hx hy hz w
  · have HE := Lib.hid hab
    rcases valid_both hab with h | ⟨h, h'⟩
    · have H := Lib.hid h
      clear hab h
      go_enter Try.func5, Try.ntmps5
      go_wp2_with fail
      go_at_call 10; refine (awake_c _).mono ?_; rintro e w' ⟨rfl, x, rfl⟩
      go_wp2_with fail
      go_at_call 13; refine (Nearest_err a b HE.out _).mono ?_; rintro e w' ⟨rfl, x, rfl⟩
      go_wp2_with fail
      go_at_call 12; refine (Square_err a b HE.out _).mono ?_; rintro e w' ⟨rfl, x, rfl⟩
      go_wp2_with fail
      go_at_call 22; refine (valid_v a _ H.out _).mono ?_; rintro e w' ⟨rfl, x, rfl⟩
      go_wp2
      go_ret
      exact Ret.of (by (repeat (first | exact grow_refl _ | refine grow_ext _ ?_ | refine grow_alloc _ ?_ | refine grow_drew ?_)))
    · have H := Lib.hid h
      have H' := Lib.hid h'
      clear hab h h'
      go_enter Try.func5, Try.ntmps5
      go_wp2_with fail
      go_at_call 10; refine (awake_c _).mono ?_; rintro e w' ⟨rfl, x, rfl⟩
      go_wp2_with fail
      go_at_call 13; refine (Nearest_err a b HE.out _).mono ?_; rintro e w' ⟨rfl, x, rfl⟩
      go_wp2_with fail
      go_at_call 12; refine (Square_err a b HE.out _).mono ?_; rintro e w' ⟨rfl, x, rfl⟩
      go_wp2_with fail
      go_at_call 22; refine (valid_v a _ H.out _).mono ?_; rintro e w' ⟨rfl, x, rfl⟩
      go_wp2_with fail
      go_at_call 22; refine (valid_v b _ H'.out _).mono ?_; rintro e w' ⟨rfl, x, rfl⟩
      go_wp2
      go_ret
      exact Ret.of (by (repeat (first | exact grow_refl _ | refine grow_ext _ ?_ | refine grow_alloc _ ?_ | refine grow_drew ?_)))

end Go.Proofs.Ytmmhplmomahfhaa

/- The law's own helpers. -/
import Derived.Test.YtmmhplmomahfhaaBoxG
namespace Go.Proofs.Ytmmhplmomahfhaa
open Go.RowKit

def manyB (n : Nat) : Bool := (decide (8 < n) && decide (n ≤ 40)) || decide (45 < n)

set_option maxHeartbeats 400000 in
theorem many_c (l : List Bx) (v : Value) (w : World) (hl : Boxes w v l) : Calls Try.prog 18 #[v] w (Ret w (.bool (manyB l.length))) := by
  obtain ⟨a, cap, rfl, hcap, hcap2, _⟩ := hl.shape
  clear hl
  rcases Nat.lt_or_ge 8 l.length with h1 | h1
  · rcases Nat.lt_or_ge 40 l.length with h2 | h2
    · rcases Nat.lt_or_ge 45 l.length with h3 | h3
      · rw [show manyB l.length = true by unfold manyB; simp [h3]]
        go_enter Try.func18, Try.ntmps18
        go_wp2
        go_ret
        exact Ret.bool (by simp <;> omega) (by (repeat (first | exact grow_refl _ | refine grow_ext _ ?_ | refine grow_alloc _ ?_ | refine grow_drew ?_)))
      · rw [show manyB l.length = false by unfold manyB; simp; omega]
        go_enter Try.func18, Try.ntmps18
        go_wp2
        go_ret
        exact Ret.bool (by simp <;> omega) (by (repeat (first | exact grow_refl _ | refine grow_ext _ ?_ | refine grow_alloc _ ?_ | refine grow_drew ?_)))
    · rw [show manyB l.length = true by unfold manyB; simp; omega]
      go_enter Try.func18, Try.ntmps18
      go_wp2
      go_ret
      exact Ret.bool (by simp <;> omega) (by (repeat (first | exact grow_refl _ | refine grow_ext _ ?_ | refine grow_alloc _ ?_ | refine grow_drew ?_)))
  · rw [show manyB l.length = false by unfold manyB; simp; omega]
    go_enter Try.func18, Try.ntmps18
    go_wp2
    go_ret
    exact Ret.bool (by simp <;> omega) (by (repeat (first | exact grow_refl _ | refine grow_ext _ ?_ | refine grow_alloc _ ?_ | refine grow_drew ?_)))

set_option maxHeartbeats 400000 in
theorem lawPoint_c (x y z : Int) (w : World) : Calls Try.prog 24 #[(.agg #[.int .i64 x, .int .i64 y, .int .i64 z])] w (Ret w (.agg #[.int .i64 (Bx.mk x y z x y z).lx, .int .i64 (Bx.mk x y z x y z).ly, .int .i64 (Bx.mk x y z x y z).lz, .int .i64 (Bx.mk x y z x y z).hx, .int .i64 (Bx.mk x y z x y z).hy, .int .i64 (Bx.mk x y z x y z).hz])) := by
  go_enter Try.func24, Try.ntmps24
  go_wp2
  refine bodyPost_ret (v := (.agg #[.int .i64 (Bx.mk x y z x y z).lx, .int .i64 (Bx.mk x y z x y z).ly, .int .i64 (Bx.mk x y z x y z).lz, .int .i64 (Bx.mk x y z x y z).hx, .int .i64 (Bx.mk x y z x y z).hy, .int .i64 (Bx.mk x y z x y z).hz])) (by simp [results, Try.results24, go_sem]) rfl ?_
  exact Ret.of (by (repeat (first | exact grow_refl _ | refine grow_ext _ ?_ | refine grow_alloc _ ?_ | refine grow_drew ?_)))

theorem grow_drewN {w a : World} {n : Nat} (h : Below w.heap.size w a) : Below w.heap.size w (a.drewN n) := ⟨h.os, h.tape, h.output, h.size, h.block⟩

def InW (n : Int) : Prop := -1048576 ≤ n ∧ n ≤ 1048576
theorem sq_bound {x y : Int} (hx : InW x) (hy : InW y) : 0 ≤ (x - y) * (x - y) ∧ (x - y) * (x - y) ≤ 4398046511104 := by
  unfold InW at hx hy
  constructor
  · rcases Int.le_total 0 (x - y) with h | h
    · exact Int.mul_nonneg h h
    · exact Int.mul_nonneg_of_nonpos_of_nonpos h h
  · have h1 : (2097152 - (x - y)) * (2097152 + (x - y)) ≥ 0 := Int.mul_nonneg (by omega) (by omega)
    have h2 : (2097152 - (x - y)) * (2097152 + (x - y)) = 4398046511104 - (x - y) * (x - y) := by
      generalize x - y = t
      rw [Int.sub_mul, Int.mul_add, Int.mul_add]; omega
    omega
def squareP (x y z x' y' z' : Int) : Int := (x - x') * (x - x') + (y - y') * (y - y') + (z - z') * (z - z')

set_option maxHeartbeats 1000000 in
theorem lawSquare_c (x y z x' y' z' : Int) (h1 : InW x) (h2 : InW y) (h3 : InW z) (h4 : InW x') (h5 : InW y') (h6 : InW z') (w : World) : Calls Try.prog 25 #[(.agg #[.int .i64 x, .int .i64 y, .int .i64 z]), (.agg #[.int .i64 x', .int .i64 y', .int .i64 z'])] w (Ret w (.int .i64 (squareP x y z x' y' z'))) := by
  obtain ⟨p1, q1⟩ := sq_bound h1 h4
  obtain ⟨p2, q2⟩ := sq_bound h2 h5
  obtain ⟨p3, q3⟩ := sq_bound h3 h6
  unfold InW at h1 h2 h3 h4 h5 h6
  go_enter Try.func25, Try.ntmps25
  go_wp2_with fail
  go_quiet (fail)
  go_wp2
  go_ret
  exact Ret.of (grow_drewN (by (repeat (first | exact grow_refl _ | refine grow_ext _ ?_ | refine grow_alloc _ ?_ | refine grow_drew ?_))))

def atI (lo hi n : Int) : Int := lo + (hi - lo) * n / 65535
theorem at_mul {lo hi n : Int} (h3 : lo ≤ hi) (h4 : 0 ≤ n ∧ n ≤ 65535) : 0 ≤ (hi - lo) * n ∧ (hi - lo) * n ≤ (hi - lo) * 65535 :=
  ⟨Int.mul_nonneg (by omega) h4.1, Int.mul_le_mul_of_nonneg_left h4.2 (by omega)⟩
theorem at_in {lo hi n : Int} (h1 : InW lo) (h2 : InW hi) (h3 : lo ≤ hi) (h4 : 0 ≤ n ∧ n ≤ 65535) : lo ≤ atI lo hi n ∧ atI lo hi n ≤ hi := by
  have := at_mul h3 h4
  unfold InW at h1 h2
  unfold atI
  generalize (hi - lo) * n = t at this
  omega

set_option maxHeartbeats 400000 in
theorem within1_c (lo hi n : Int) (h1 : InW lo) (h2 : InW hi) (h3 : lo ≤ hi) (h4 : 0 ≤ n ∧ n ≤ 65535) (w : World) :
    Calls Try.prog 51 #[.int .i64 lo, .int .i64 hi, .int .u16 n] w (Ret w (.int .i64 (atI lo hi n))) := by
  have hm := at_mul h3 h4
  have hd : ((hi - lo) * n).tdiv 65535 = (hi - lo) * n / 65535 := Int.tdiv_eq_ediv_of_nonneg hm.1
  unfold InW at h1 h2
  have HD := Lib.hid hd
  clear hd
  go_enter Try.func51, Try.ntmps51
  go_wp2
  go_ret
  exact Ret.of (by (repeat (first | exact grow_refl _ | refine grow_ext _ ?_ | refine grow_alloc _ ?_ | refine grow_drew ?_)))

end Go.Proofs.Ytmmhplmomahfhaa

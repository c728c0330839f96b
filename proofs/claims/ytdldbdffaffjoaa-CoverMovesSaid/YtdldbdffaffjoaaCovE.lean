/- cover.Sides. -/
import Derived.Test.YtdldbdffaffjoaaCovK
namespace Go.Proofs.Ytdldbdffaffjoaa
open Go.RowKit
set_option maxRecDepth 20000

def sideI (q : Mb) (d : Int) (leg : Bx) (i : Nat) : Int := if givenI q d leg = 0 then sideC q.l q.m (coreX d leg) i else 0
set_option maxRecDepth 100000 in
set_option maxHeartbeats 4000000 in
theorem Sides_ok (q : Mb) (d : Int) (leg : Bx) (s0 s1 s2 s3 s4 s5 : Int) (h0 : givenI q d leg = 0)
    (e0 : sideC q.l q.m (coreX d leg) 0 = s0) (e1 : sideC q.l q.m (coreX d leg) 1 = s1) (e2 : sideC q.l q.m (coreX d leg) 2 = s2) (e3 : sideC q.l q.m (coreX d leg) 3 = s3) (e4 : sideC q.l q.m (coreX d leg) 4 = s4) (e5 : sideC q.l q.m (coreX d leg) 5 = s5) (w : World) (hq : MbAt w q) :
    Calls Try.prog 9 #[(.agg #[.string q.name, q.u, q.t, .int .i64 q.cover, .int .i64 q.agg, .int .i64 q.poker]), .int .i64 d, (.agg #[.int .i64 leg.lx, .int .i64 leg.ly, .int .i64 leg.lz, .int .i64 leg.hx, .int .i64 leg.hy, .int .i64 leg.hz])] w (Ret w (.tuple #[.agg #[.int .i64 s0, .int .i64 s1, .int .i64 s2, .int .i64 s3, .int .i64 s4, .int .i64 s5], .int .i64 0])) := by
  have HG := Lib.hid (fun w hq => given_c q d leg w hq)
  rw [h0] at HG
  obtain ⟨h1, h2, h3⟩ := given_zero.1 h0
  have hs := mb_solid h1
  have ho := core_ord h2 h3
  have HC := Lib.hid (fun w => core_c d leg w)
  rw [coreR_ok h2 h3] at HC
  have HQ := Lib.hid hq
  clear hq h0 h1 h2 h3
  generalize coreX d leg = b at *
  cases hv : validB b
  · have hn : containsS q.l q.m b = false := by
      have := held_ord hs ho
      rw [hv] at this
      simpa using this.symm
    rw [side_none ho _ hn] at e0 e1 e2 e3 e4 e5
    subst e0 e1 e2 e3 e4 e5
    rw [hv] at HC
    simp only [Bool.false_eq_true, if_false, zeroX] at HC
    clear hn ho hv
    go_enter Try.func9, Try.ntmps9
    go_wp2_with fail
    go_at_call 19; refine (HG.out _ (HQ.out.below (by (repeat (first | exact grow_refl _ | refine grow_ext _ ?_ | refine grow_alloc _ ?_ | refine grow_drew ?_))))).mono ?_; rintro e w' ⟨rfl, x1, rfl⟩
    go_wp2_with fail
    go_at_call 21; refine (HC.out _).mono ?_; rintro e w' ⟨rfl, x2, rfl⟩
    go_wp2
    refine bodyPost_ret (v := .tuple #[.agg #[.int .i64 (-1), .int .i64 (-1), .int .i64 (-1), .int .i64 (-1), .int .i64 (-1), .int .i64 (-1)], .int .i64 0]) (by simp [results, Try.results9, go_sem]) rfl ?_
    exact Ret.of (by (repeat (first | exact grow_refl _ | refine grow_ext _ ?_ | refine grow_alloc _ ?_ | refine grow_drew ?_)))
  rw [hv] at HC
  simp only [if_true] at HC
  cases hn : containsS q.l q.m b
  · rw [side_none ho _ hn] at e0 e1 e2 e3 e4 e5
    subst e0 e1 e2 e3 e4 e5
    have HH := Lib.hid (fun w hq => held_c q b false (by rw [hn]; simp) hs w hq)
    clear hn ho hv
    go_enter Try.func9, Try.ntmps9
    go_wp2_with fail
    go_at_call 19; refine (HG.out _ (HQ.out.below (by (repeat (first | exact grow_refl _ | refine grow_ext _ ?_ | refine grow_alloc _ ?_ | refine grow_drew ?_))))).mono ?_; rintro e w' ⟨rfl, x1, rfl⟩
    go_wp2_with fail
    go_at_call 21; refine (HC.out _).mono ?_; rintro e w' ⟨rfl, x2, rfl⟩
    go_wp2_with fail
    go_at_call 22; refine (HH.out _ (HQ.out.below (by (repeat (first | exact grow_refl _ | refine grow_ext _ ?_ | refine grow_alloc _ ?_ | refine grow_drew ?_))))).mono ?_; rintro e w' ⟨rfl, x3, rfl⟩
    go_wp2
    refine bodyPost_ret (v := .tuple #[.agg #[.int .i64 (-1), .int .i64 (-1), .int .i64 (-1), .int .i64 (-1), .int .i64 (-1), .int .i64 (-1)], .int .i64 0]) (by simp [results, Try.results9, go_sem]) rfl ?_
    exact Ret.of (by (repeat (first | exact grow_refl _ | refine grow_ext _ ?_ | refine grow_alloc _ ?_ | refine grow_drew ?_)))
  have HH := Lib.hid (fun w hq => held_c q b true (by rw [hn, hv]; rfl) hs w hq)
  have G0 := Lib.hid (fun g k w hq hg hk => greatest_b q b 0 (by decide) s0 e0 hs hv g k w hq hg hk)
  have G1 := Lib.hid (fun g k w hq hg hk => greatest_b q b 1 (by decide) s1 e1 hs hv g k w hq hg hk)
  have G2 := Lib.hid (fun g k w hq hg hk => greatest_b q b 2 (by decide) s2 e2 hs hv g k w hq hg hk)
  have G3 := Lib.hid (fun g k w hq hg hk => greatest_b q b 3 (by decide) s3 e3 hs hv g k w hq hg hk)
  have G4 := Lib.hid (fun g k w hq hg hk => greatest_b q b 4 (by decide) s4 e4 hs hv g k w hq hg hk)
  have G5 := Lib.hid (fun g k w hq hg hk => greatest_b q b 5 (by decide) s5 e5 hs hv g k w hq hg hk)
  clear e0 e1 e2 e3 e4 e5 hn ho hv hs
  go_enter Try.func9, Try.ntmps9
  go_wp2_with fail
  go_at_call 19; refine (HG.out _ (HQ.out.below (by (repeat (first | exact grow_refl _ | refine grow_ext _ ?_ | refine grow_alloc _ ?_ | refine grow_drew ?_))))).mono ?_; rintro e w' ⟨rfl, x1, rfl⟩
  go_wp2_with fail
  go_at_call 21; refine (HC.out _).mono ?_; rintro e w' ⟨rfl, x2, rfl⟩
  go_wp2_with fail
  go_at_call 22; refine (HH.out _ (HQ.out.below (by (repeat (first | exact grow_refl _ | refine grow_ext _ ?_ | refine grow_alloc _ ?_ | refine grow_drew ?_))))).mono ?_; rintro e w' ⟨rfl, x3, rfl⟩
  go_wp2_with fail
  refine wp_loop_rounds 7 ?_
  rw [rounds_succ]
  go_wp2_with fail
  refine wp_region_tail 5 (by kernel_rfl) (by kernel_rfl) ?_; simp only [List.take_succ_cons, List.take_zero, List.drop_succ_cons, List.drop_zero]
  repeat (go_big_quiet_step ((go_at_call 23; exact Calls.quiet_ext (G0.out _ _ _ (HQ.out.below (by (repeat (first | exact grow_refl _ | refine grow_ext _ ?_ | refine grow_alloc _ ?_ | refine grow_drew ?_)))) (by simp [BoxAt, go_sem]) (by simp [go_sem])))))
  refine wpQuiet_nil ?_; rintro _ ⟨xq, rfl⟩
  go_wp2_with fail
  rw [rounds_succ]
  go_wp2_with fail
  refine wp_region_tail 5 (by kernel_rfl) (by kernel_rfl) ?_; simp only [List.take_succ_cons, List.take_zero, List.drop_succ_cons, List.drop_zero]
  repeat (go_big_quiet_step ((go_at_call 23; exact Calls.quiet_ext (G1.out _ _ _ (HQ.out.below (by (repeat (first | exact grow_refl _ | refine grow_ext _ ?_ | refine grow_alloc _ ?_ | refine grow_drew ?_)))) (by simp [BoxAt, go_sem]) (by simp [go_sem])))))
  refine wpQuiet_nil ?_; rintro _ ⟨xq, rfl⟩
  go_wp2_with fail
  rw [rounds_succ]
  go_wp2_with fail
  refine wp_region_tail 5 (by kernel_rfl) (by kernel_rfl) ?_; simp only [List.take_succ_cons, List.take_zero, List.drop_succ_cons, List.drop_zero]
  repeat (go_big_quiet_step ((go_at_call 23; exact Calls.quiet_ext (G2.out _ _ _ (HQ.out.below (by (repeat (first | exact grow_refl _ | refine grow_ext _ ?_ | refine grow_alloc _ ?_ | refine grow_drew ?_)))) (by simp [BoxAt, go_sem]) (by simp [go_sem])))))
  refine wpQuiet_nil ?_; rintro _ ⟨xq, rfl⟩
  go_wp2_with fail
  rw [rounds_succ]
  go_wp2_with fail
  refine wp_region_tail 5 (by kernel_rfl) (by kernel_rfl) ?_; simp only [List.take_succ_cons, List.take_zero, List.drop_succ_cons, List.drop_zero]
  repeat (go_big_quiet_step ((go_at_call 23; exact Calls.quiet_ext (G3.out _ _ _ (HQ.out.below (by (repeat (first | exact grow_refl _ | refine grow_ext _ ?_ | refine grow_alloc _ ?_ | refine grow_drew ?_)))) (by simp [BoxAt, go_sem]) (by simp [go_sem])))))
  refine wpQuiet_nil ?_; rintro _ ⟨xq, rfl⟩
  go_wp2_with fail
  rw [rounds_succ]
  go_wp2_with fail
  refine wp_region_tail 5 (by kernel_rfl) (by kernel_rfl) ?_; simp only [List.take_succ_cons, List.take_zero, List.drop_succ_cons, List.drop_zero]
  repeat (go_big_quiet_step ((go_at_call 23; exact Calls.quiet_ext (G4.out _ _ _ (HQ.out.below (by (repeat (first | exact grow_refl _ | refine grow_ext _ ?_ | refine grow_alloc _ ?_ | refine grow_drew ?_)))) (by simp [BoxAt, go_sem]) (by simp [go_sem])))))
  refine wpQuiet_nil ?_; rintro _ ⟨xq, rfl⟩
  go_wp2_with fail
  rw [rounds_succ]
  go_wp2_with fail
  refine wp_region_tail 5 (by kernel_rfl) (by kernel_rfl) ?_; simp only [List.take_succ_cons, List.take_zero, List.drop_succ_cons, List.drop_zero]
  repeat (go_big_quiet_step ((go_at_call 23; exact Calls.quiet_ext (G5.out _ _ _ (HQ.out.below (by (repeat (first | exact grow_refl _ | refine grow_ext _ ?_ | refine grow_alloc _ ?_ | refine grow_drew ?_)))) (by simp [BoxAt, go_sem]) (by simp [go_sem])))))
  refine wpQuiet_nil ?_; rintro _ ⟨xq, rfl⟩
  go_wp2_with fail
  rw [rounds_succ]
  go_wp2
  refine bodyPost_ret (v := .tuple #[.agg #[.int .i64 s0, .int .i64 s1, .int .i64 s2, .int .i64 s3, .int .i64 s4, .int .i64 s5], .int .i64 0]) (by simp [results, Try.results9, go_sem]) rfl ?_
  exact Ret.of (by (repeat (first | exact grow_refl _ | refine grow_ext _ ?_ | refine grow_alloc _ ?_ | refine grow_drew ?_)))
set_option maxHeartbeats 1000000 in
theorem Sides_c (q : Mb) (d : Int) (leg : Bx) (w : World) (hq : MbAt w q) :
    Calls Try.prog 9 #[(.agg #[.string q.name, q.u, q.t, .int .i64 q.cover, .int .i64 q.agg, .int .i64 q.poker]), .int .i64 d, (.agg #[.int .i64 leg.lx, .int .i64 leg.ly, .int .i64 leg.lz, .int .i64 leg.hx, .int .i64 leg.hy, .int .i64 leg.hz])] w (Ret w (.tuple #[.agg #[.int .i64 (sideI q d leg 0), .int .i64 (sideI q d leg 1), .int .i64 (sideI q d leg 2), .int .i64 (sideI q d leg 3), .int .i64 (sideI q d leg 4), .int .i64 (sideI q d leg 5)], .int .i64 (givenI q d leg)])) := by
  unfold sideI
  by_cases h0 : givenI q d leg = 0
  · simp only [h0, if_true]
    exact Sides_ok q d leg _ _ _ _ _ _ h0 rfl rfl rfl rfl rfl rfl w hq
  · simp only [h0, if_false]
    have HG := Lib.hid (fun w hq => given_c q d leg w hq)
    have HQ := Lib.hid hq
    clear hq
    generalize givenI q d leg = g at *
    have d1 : (g != 0) = true := by simpa using h0
    clear h0
    go_enter Try.func9, Try.ntmps9
    go_wp2_with fail
    go_at_call 19; refine (HG.out _ (HQ.out.below (by (repeat (first | exact grow_refl _ | refine grow_ext _ ?_ | refine grow_alloc _ ?_ | refine grow_drew ?_))))).mono ?_; rintro e w' ⟨rfl, x1, rfl⟩
    go_wp2
    refine bodyPost_ret (v := .tuple #[.agg #[.int .i64 0, .int .i64 0, .int .i64 0, .int .i64 0, .int .i64 0, .int .i64 0], .int .i64 g]) (by simp [results, Try.results9, go_sem]) rfl ?_
    exact Ret.of (by (repeat (first | exact grow_refl _ | refine grow_ext _ ?_ | refine grow_alloc _ ?_ | refine grow_drew ?_)))

end Go.Proofs.Ytdldbdffaffjoaa

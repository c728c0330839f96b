/- The reference's points: stirrupref22.Right, Reach, Far, Reached; PokerReaches: the walk of the law. -/
import Derived.Test.YtmoechhfjmemaaaGreatPokK2
namespace Go.Proofs.YtmoechhfjmemaaaGreat
open Go.RowKit
set_option maxRecDepth 20000

theorem valid_pt (p : Pt) : validB ⟨p.x, p.y, p.z, p.x, p.y, p.z⟩ = nearB p 1048576 := by
  rw [Bool.eq_iff_iff, valid_iff, near_iff]; unfold NearP; simp only; omega
theorem refValid22_v (b : Bx) (r : Bool) (h : validB b = r) (w : World) : Calls Tryz.prog 57 #[(.agg #[.int .i64 b.lx, .int .i64 b.ly, .int .i64 b.lz, .int .i64 b.hx, .int .i64 b.hy, .int .i64 b.hz])] w (Ret w (.bool r)) := by subst h; exact refValid_c b w
theorem rRight_v (p : Pt) (r : Bool) (h : nearB p 1048576 = r) (w : World) : Calls Tryz.prog 16 #[(.agg #[.int .i64 p.x, .int .i64 p.y, .int .i64 p.z])] w (Ret w (.bool r)) := by
  have HV := Lib.hid (fun w => refValid22_v ⟨p.x, p.y, p.z, p.x, p.y, p.z⟩ r (by rw [valid_pt, h]) w)
  clear h
  go_enter Tryz.func16, Tryz.ntmps16
  go_wp2_with fail
  go_at_call 57; refine (HV.out _).mono ?_; rintro e w' ⟨rfl, x1, rfl⟩
  go_wp2
  go_ret
  exact Ret.of (by (repeat (first | exact grow_refl _ | refine grow_ext _ ?_ | refine grow_alloc _ ?_ | refine grow_drew ?_)))
theorem rReach_v (n : Int) (r : Bool) (h : decide (0 ≤ n ∧ n ≤ 1048576) = r) (w : World) : Calls Tryz.prog 24 #[.int .i64 n] w (Ret w (.bool r)) := by
  rw [Bool.decide_and] at h
  by_cases h1 : 0 ≤ n
  · have d1 : decide (0 ≤ n) = true := decide_eq_true h1
    rw [d1, Bool.true_and] at h
    go_enter Tryz.func24, Tryz.ntmps24
    go_wp2
    go_ret
    exact Ret.of (by (repeat (first | exact grow_refl _ | refine grow_ext _ ?_ | refine grow_alloc _ ?_ | refine grow_drew ?_)))
  · have d1 : decide (0 ≤ n) = false := decide_eq_false h1
    rw [d1, Bool.false_and] at h
    subst h
    go_enter Tryz.func24, Tryz.ntmps24
    go_wp2
    go_ret
    exact Ret.of (by (repeat (first | exact grow_refl _ | refine grow_ext _ ?_ | refine grow_alloc _ ?_ | refine grow_drew ?_)))
theorem rFar_v (a b n : Int) (ha : -1048576 ≤ a ∧ a ≤ 1048576) (hb : -1048576 ≤ b ∧ b ≤ 1048576) (r : Bool) (h : decide (max (a - b) (b - a) ≤ n) = r) (w : World) : Calls Tryz.prog 69 #[.int .i64 a, .int .i64 b, .int .i64 n] w (Ret w (.bool (!r))) := by
  by_cases h1 : n < a - b
  · have d1 : decide (n < a - b) = true := decide_eq_true h1
    obtain rfl : false = r := by rw [← h]; symm; simp; omega
    clear h
    go_enter Tryz.func69, Tryz.ntmps69
    go_wp2
    go_ret
    exact Ret.of (by (repeat (first | exact grow_refl _ | refine grow_ext _ ?_ | refine grow_alloc _ ?_ | refine grow_drew ?_)))
  · have d1 : decide (n < a - b) = false := decide_eq_false h1
    have d2 : decide (n < b - a) = !r := by rw [← h, ← decide_not]; apply decide_eq_decide.2; omega
    clear h h1
    cases r
    all_goals
      simp only [Bool.not_false, Bool.not_true] at d2
      go_enter Tryz.func69, Tryz.ntmps69
      go_wp2
      go_ret
      exact Ret.of (by (repeat (first | exact grow_refl _ | refine grow_ext _ ?_ | refine grow_alloc _ ?_ | refine grow_drew ?_)))

set_option maxRecDepth 100000 in
set_option maxHeartbeats 4000000 in
theorem rReached_c (l : List Pt) (v : Value) (reach : Int) (p : Pt) (hp : NearP p 1048576) (hn : ∀ q ∈ l, NearP q 1048576) (hr : 0 ≤ reach ∧ reach ≤ 1048576) (w : World) (hv : Pts w v l) :
    Calls Tryz.prog 25 #[v, .int .i64 reach, (.agg #[.int .i64 p.x, .int .i64 p.y, .int .i64 p.z])] w (Ret w (.bool (reachedB l reach p))) := by
  obtain ⟨p1, p2, p3⟩ := hp
  have HN := Lib.hid hn
  obtain ⟨a, cap, rfl, c1, c2, c3⟩ := hv.shape
  have C3 := Lib.hid c3
  clear hv hn c3
  go_enter Tryz.func25, Tryz.ntmps25
  go_wp2_with fail
  refine world_mask (fun W => (∃ z, W = ext w z) ∧ PtAt W w.heap.size 0 p) _ ⟨ext_of (by (repeat (first | exact grow_refl _ | refine grow_ext _ ?_ | refine grow_alloc _ ?_ | refine grow_drew ?_))), by simp [PtAt, go_sem]⟩ ?_
  rintro W1 ⟨hbe, hp1⟩
  have HBE := Lib.hid hbe
  have HP1 := Lib.hid hp1
  clear hbe hp1
  go_loopw [7] (fun i wr => ∃ k : Nat, k ≤ l.length ∧ i = .int .i64 k ∧ (∀ j (h : j < k) (h' : j < l.length), inReach reach p l[j] = false) ∧ (∃ x, wr = ext W1 x)) (fun i _ => l.length - (intOf i).toNat)
  case atStart => exact ⟨0, Nat.zero_le _, rfl, fun j h => absurd h (Nat.not_lt_zero _), ext_of (by (repeat (first | exact grow_refl _ | refine grow_ext _ ?_ | refine grow_alloc _ ?_ | refine grow_drew ?_)))⟩
  case round =>
    obtain ⟨k, hk, rfl, hno, ⟨x, rfl⟩⟩ := hrel
    have HNO := Lib.hid hno
    have HZ := Lib.hid (show ∃ z, ext W1 x = ext w z by obtain ⟨z, e⟩ := HBE.out; rw [e, ext_ext]; exact ⟨_, rfl⟩)
    clear hno
    by_cases hlt : k < l.length
    · obtain ⟨g, o, rfl, hcc⟩ := C3.out k hlt
      have hcc : PtAt W1 g (o + k * 3) l[k] := by obtain ⟨z, e⟩ := HBE.out; rw [e]; exact hcc.ext z
      obtain ⟨n0, n1, n2⟩ := hcc.ext x
      obtain ⟨m0, m1, m2⟩ := HP1.out.ext x
      simp only [Nat.zero_add] at m1 m2
      have i1 : (0 : Int) ≤ (k : Int) := by omega
      have i2 : (k : Int) < (l.length : Int) := by omega
      obtain ⟨q1, q2, q3⟩ := HN.out _ (List.getElem_mem hlt)
      have HST := Lib.hid (show inReach reach p l[k] = false → ∀ j (h : j < k + 1) (h' : j < l.length), inReach reach p l[j] = false from fun hf j h1 h2 => by
        rcases Nat.lt_or_ge j k with h | h
        · exact HNO.out j h h2
        · obtain rfl : j = k := by omega
          exact hf)
      have HYES := Lib.hid (show inReach reach p l[k] = true → reachedB l reach p = true from fun hf => List.any_eq_true.2 ⟨_, List.getElem_mem hlt, hf⟩)
      obtain ⟨q, hq⟩ : ∃ q, l[k] = q := ⟨_, rfl⟩
      rw [hq] at n0 n1 n2 q1 q2 q3 HST HYES
      have HE := Lib.hid (show inReach reach p q = (decide (max (p.x - q.x) (q.x - p.x) ≤ reach) && (decide (max (p.y - q.y) (q.y - p.y) ≤ reach) && decide (q.z - reach ≤ p.z))) from rfl)
      clear hq hcc
      obtain ⟨b1, h1⟩ : ∃ b, decide (max (p.x - q.x) (q.x - p.x) ≤ reach) = b := ⟨_, rfl⟩
      obtain ⟨b2, h2⟩ : ∃ b, decide (max (p.y - q.y) (q.y - p.y) ≤ reach) = b := ⟨_, rfl⟩
      obtain ⟨b3, h3⟩ : ∃ b, decide (q.z - reach ≤ p.z) = b := ⟨_, rfl⟩
      rw [h1, h2, h3] at HE
      have H1 := Lib.hid (fun w => rFar_v p.x q.x reach p1 q1 b1 h1 w)
      have H2 := Lib.hid (fun w => rFar_v p.y q.y reach p2 q2 b2 h2 w)
      clear h1 h2 p1 p2 q1 q2
      cases b1
      · simp only [Bool.not_false] at H1
        go_wp2_with fail
        go_at_call 69; refine (H1.out _).mono ?_; rintro e w' ⟨rfl, y1, rfl⟩
        go_wp2
        go_roundw
        case rel => exact ⟨k + 1, by omega, by go_num, HST.out (by rw [HE.out]; rfl), ext_of (by (repeat (first | exact grow_refl _ | refine grow_ext _ ?_ | refine grow_alloc _ ?_ | refine grow_drew ?_)))⟩
        case measure => simp [intOf]; omega
      cases b2
      · simp only [Bool.not_false, Bool.not_true] at H1 H2
        go_wp2_with fail
        go_at_call 69; refine (H1.out _).mono ?_; rintro e w' ⟨rfl, y1, rfl⟩
        go_wp2_with fail
        go_at_call 69; refine (H2.out _).mono ?_; rintro e w' ⟨rfl, y2, rfl⟩
        go_wp2
        go_roundw
        case rel => exact ⟨k + 1, by omega, by go_num, HST.out (by rw [HE.out]; rfl), ext_of (by (repeat (first | exact grow_refl _ | refine grow_ext _ ?_ | refine grow_alloc _ ?_ | refine grow_drew ?_)))⟩
        case measure => simp [intOf]; omega
      simp only [Bool.not_true] at H1 H2
      cases b3
      all_goals
        go_wp2_with fail
        go_at_call 69; refine (H1.out _).mono ?_; rintro e w' ⟨rfl, y1, rfl⟩
        go_wp2_with fail
        go_at_call 69; refine (H2.out _).mono ?_; rintro e w' ⟨rfl, y2, rfl⟩
        go_wp2
      · go_roundw
        case rel => exact ⟨k + 1, by omega, by go_num, HST.out (by rw [HE.out]; rfl), ext_of (by (repeat (first | exact grow_refl _ | refine grow_ext _ ?_ | refine grow_alloc _ ?_ | refine grow_drew ?_)))⟩
        case measure => simp [intOf]; omega
      · go_ret
        obtain ⟨z, ez⟩ := HZ.out
        rw [ez, HYES.out (by rw [HE.out]; rfl)]
        exact Ret.of (by (repeat (first | exact grow_refl _ | refine grow_ext _ ?_ | refine grow_alloc _ ?_ | refine grow_drew ?_)))
    · obtain rfl : k = l.length := by omega
      go_wp2
      go_ret
      obtain ⟨z, ez⟩ := HZ.out
      rw [ez, show reachedB l reach p = false from List.any_eq_false.2 fun q hq => by
        obtain ⟨j, hj, rfl⟩ := List.getElem_of_mem hq
        simp [HNO.out j hj hj]]
      exact Ret.of (by (repeat (first | exact grow_refl _ | refine grow_ext _ ?_ | refine grow_alloc _ ?_ | refine grow_drew ?_)))

theorem lright1_c (p : Pt) (w : World) : Calls Tryz.prog 23 #[(.agg #[.int .i64 p.x, .int .i64 p.y, .int .i64 p.z])] w (Ret w (.bool (!nearB p 1048576))) := by
  have HR := Lib.hid (fun w => rRight_v p _ rfl w)
  generalize nearB p 1048576 = b at *
  go_enter Tryz.func23, Tryz.ntmps23
  go_wp2_with fail
  go_at_call 16; refine (HR.out _).mono ?_; rintro e w' ⟨rfl, x1, rfl⟩
  go_wp2
  go_ret
  exact Ret.of (by (repeat (first | exact grow_refl _ | refine grow_ext _ ?_ | refine grow_alloc _ ?_ | refine grow_drew ?_)))
theorem enters_lright1 : Enters 23 := enters_of Tryz.func23 (by decide) (by simp [Tryz.f23])

set_option maxRecDepth 100000 in
set_option maxHeartbeats 4000000 in
theorem lawPokerReaches_c (l : List Pt) (v : Value) (reach : Int) (x y z : Int) (_ : -9223372036854775808 ≤ reach ∧ reach ≤ 9223372036854775807) (w : World) (hv : Pts w v l) :
    Calls Tryz.prog 4 #[v, .int .i64 reach, (.agg #[.int .i64 x, .int .i64 y, .int .i64 z])] w (Ret w (.bool true)) := by
  obtain ⟨a, cap, rfl, c1, c2, -⟩ := hv.shape
  have HV := Lib.hid hv
  obtain ⟨p, hp⟩ : ∃ p : Pt, p = ⟨x, y, z⟩ := ⟨_, rfl⟩
  obtain ⟨ex, ey, ez⟩ : p.x = x ∧ p.y = y ∧ p.z = z := by subst hp; exact ⟨rfl, rfl, rfl⟩
  subst ex ey ez
  clear hv hp
  have HRE := Lib.hid (fun B E h w hv => pReached_v l (.slice a l.length cap) reach p B E h w hv)
  have H1 := Lib.hid (show ∀ (b : Pt) (W : World), Calls Tryz.prog 23 (#[(.agg #[.int .i64 b.x, .int .i64 b.y, .int .i64 b.z])] ++ #[]) W (Ret W (.bool (!nearB b 1048576))) from fun b W => lright1_c b W)
  by_cases e1 : 5005 < l.length
  · have d1 : decide ((60 : Int) < (l.length : Int)) = true := by simp; omega
    have d2 : decide ((l.length : Int) ≤ 5000) = false := by simp; omega
    have d3 : decide ((5005 : Int) < (l.length : Int)) = true := by simp; omega
    clear e1
    go_enter Tryz.func4, Tryz.ntmps4
    go_wp2_with fail
    go_at_call 11; refine (awake22_c _).mono ?_; rintro e w' ⟨rfl, x0, rfl⟩
    go_wp2
    go_ret
    exact Ret.of (by (repeat (first | exact grow_refl _ | refine grow_ext _ ?_ | refine grow_alloc _ ?_ | refine grow_drew ?_)))
  by_cases e2 : 5000 < l.length
  · have d1 : decide ((60 : Int) < (l.length : Int)) = true := by simp; omega
    have d2 : decide ((l.length : Int) ≤ 5000) = false := by simp; omega
    have d3 : decide ((5005 : Int) < (l.length : Int)) = false := by simp; omega
    have d4 : decide ((5000 : Int) < (l.length : Int)) = true := by simp; omega
    have HRE := Lib.hid (HRE.out _ _ (show reachedE l reach p = (false, 4) by unfold reachedE; rw [if_pos e2]))
    clear e1 e2
    go_enter Tryz.func4, Tryz.ntmps4
    go_wp2_with fail
    go_at_call 11; refine (awake22_c _).mono ?_; rintro e w' ⟨rfl, x0, rfl⟩
    go_wp2_with fail
    go_at_call 21; refine (HRE.out _ (HV.out.below (by (repeat (first | exact grow_refl _ | refine grow_ext _ ?_ | refine grow_alloc _ ?_ | refine grow_drew ?_))))).mono ?_; rintro e w' ⟨rfl, x1, rfl⟩
    go_wp2
    go_ret
    exact Ret.of (by (repeat (first | exact grow_refl _ | refine grow_ext _ ?_ | refine grow_alloc _ ?_ | refine grow_drew ?_)))
  have d2 : decide ((l.length : Int) ≤ 5000) = true := by simp; omega
  have d3 : decide ((5005 : Int) < (l.length : Int)) = false := by simp; omega
  have d4 : decide ((5000 : Int) < (l.length : Int)) = false := by simp; omega
  by_cases e3 : 60 < l.length
  · have d1 : decide ((60 : Int) < (l.length : Int)) = true := by simp; omega
    clear e1 e2 e3
    go_enter Tryz.func4, Tryz.ntmps4
    go_wp2_with fail
    go_at_call 11; refine (awake22_c _).mono ?_; rintro e w' ⟨rfl, x0, rfl⟩
    go_wp2
    go_ret
    exact Ret.of (by (repeat (first | exact grow_refl _ | refine grow_ext _ ?_ | refine grow_alloc _ ?_ | refine grow_drew ?_)))
  have d1 : decide ((60 : Int) < (l.length : Int)) = false := by simp; omega
  have hre : reachedE l reach p = if nearB p 1048576 = true ∧ 0 ≤ reach ∧ reach ≤ 1048576 ∧ l.all (fun q => nearB q 1048576) = true then (reachedB l reach p, 0) else (false, 2) := by unfold reachedE; rw [if_neg e2]
  clear e1 e2 e3
  have hany : (l.any fun q => !nearB q 1048576) = !(l.all fun q => nearB q 1048576) := by rw [List.not_all_eq_any_not]
  cases ha : l.all fun q => nearB q 1048576
  · rw [ha, if_neg (by simp)] at hre
    have HRE := Lib.hid (HRE.out _ _ hre)
    rw [ha] at hany
    have HA := Lib.hid hany
    clear hre hany ha
    go_enter Tryz.func4, Tryz.ntmps4
    go_wp2_with fail
    go_at_call 11; refine (awake22_c _).mono ?_; rintro e w' ⟨rfl, x0, rfl⟩
    go_wp2_with fail
    go_at_call 21; refine (HRE.out _ (HV.out.below (by (repeat (first | exact grow_refl _ | refine grow_ext _ ?_ | refine grow_alloc _ ?_ | refine grow_drew ?_))))).mono ?_; rintro e w' ⟨rfl, x1, rfl⟩
    go_wp2_with fail
    go_at_call 22
    refine (containsFunc_cPt _ enters_lright1 #[] (fun q => !nearB q 1048576) l _ _ (HV.out.below (by (repeat (first | exact grow_refl _ | refine grow_ext _ ?_ | refine grow_alloc _ ?_ | refine grow_drew ?_)))) (fun b x _ => H1.out b _)).mono ?_
    rintro e w' ⟨rfl, x4, rfl⟩
    rw [HA.out]
    go_wp2
    go_ret
    exact Ret.of (by (repeat (first | exact grow_refl _ | refine grow_ext _ ?_ | refine grow_alloc _ ?_ | refine grow_drew ?_)))
  rw [ha] at hany hre
  have HA := Lib.hid hany
  have HN := Lib.hid (fun q hq => near_iff.1 (List.all_eq_true.1 ha q hq))
  clear hany ha
  cases hn : nearB p 1048576
  · rw [hn, if_neg (by simp)] at hre
    have HRE := Lib.hid (HRE.out _ _ hre)
    have HNP := Lib.hid hn
    clear hre hn
    go_enter Tryz.func4, Tryz.ntmps4
    go_wp2_with fail
    go_at_call 11; refine (awake22_c _).mono ?_; rintro e w' ⟨rfl, x0, rfl⟩
    go_wp2_with fail
    go_at_call 21; refine (HRE.out _ (HV.out.below (by (repeat (first | exact grow_refl _ | refine grow_ext _ ?_ | refine grow_alloc _ ?_ | refine grow_drew ?_))))).mono ?_; rintro e w' ⟨rfl, x1, rfl⟩
    go_wp2_with fail
    go_at_call 22
    refine (containsFunc_cPt _ enters_lright1 #[] (fun q => !nearB q 1048576) l _ _ (HV.out.below (by (repeat (first | exact grow_refl _ | refine grow_ext _ ?_ | refine grow_alloc _ ?_ | refine grow_drew ?_)))) (fun b x _ => H1.out b _)).mono ?_
    rintro e w' ⟨rfl, x4, rfl⟩
    rw [HA.out]
    go_wp2_with fail
    go_at_call 16; refine (rRight_v p _ HNP.out _).mono ?_; rintro e w' ⟨rfl, x5, rfl⟩
    go_wp2
    go_ret
    exact Ret.of (by (repeat (first | exact grow_refl _ | refine grow_ext _ ?_ | refine grow_alloc _ ?_ | refine grow_drew ?_)))
  have HNP := Lib.hid hn
  rw [hn] at hre
  by_cases hr : 0 ≤ reach ∧ reach ≤ 1048576
  case neg =>
    rw [if_neg (fun h => hr ⟨h.2.1, h.2.2.1⟩)] at hre
    have HRE := Lib.hid (HRE.out _ _ hre)
    have HR := Lib.hid (decide_eq_false hr)
    clear hre hn hr
    go_enter Tryz.func4, Tryz.ntmps4
    go_wp2_with fail
    go_at_call 11; refine (awake22_c _).mono ?_; rintro e w' ⟨rfl, x0, rfl⟩
    go_wp2_with fail
    go_at_call 21; refine (HRE.out _ (HV.out.below (by (repeat (first | exact grow_refl _ | refine grow_ext _ ?_ | refine grow_alloc _ ?_ | refine grow_drew ?_))))).mono ?_; rintro e w' ⟨rfl, x1, rfl⟩
    go_wp2_with fail
    go_at_call 22
    refine (containsFunc_cPt _ enters_lright1 #[] (fun q => !nearB q 1048576) l _ _ (HV.out.below (by (repeat (first | exact grow_refl _ | refine grow_ext _ ?_ | refine grow_alloc _ ?_ | refine grow_drew ?_)))) (fun b x _ => H1.out b _)).mono ?_
    rintro e w' ⟨rfl, x4, rfl⟩
    rw [HA.out]
    go_wp2_with fail
    go_at_call 16; refine (rRight_v p _ HNP.out _).mono ?_; rintro e w' ⟨rfl, x5, rfl⟩
    go_wp2_with fail
    go_at_call 24; refine (rReach_v reach _ HR.out _).mono ?_; rintro e w' ⟨rfl, x6, rfl⟩
    go_wp2
    go_ret
    exact Ret.of (by (repeat (first | exact grow_refl _ | refine grow_ext _ ?_ | refine grow_alloc _ ?_ | refine grow_drew ?_)))
  rw [if_pos ⟨rfl, hr.1, hr.2, rfl⟩] at hre
  have HRE := Lib.hid (HRE.out _ _ hre)
  have HR := Lib.hid (decide_eq_true hr)
  have HRR := Lib.hid (fun w hv => rReached_c l (.slice a l.length cap) reach p (near_iff.1 hn) HN.out hr w hv)
  generalize reachedB l reach p = B at *
  clear hre hn hr
  go_enter Tryz.func4, Tryz.ntmps4
  go_wp2_with fail
  go_at_call 11; refine (awake22_c _).mono ?_; rintro e w' ⟨rfl, x0, rfl⟩
  go_wp2_with fail
  go_at_call 21; refine (HRE.out _ (HV.out.below (by (repeat (first | exact grow_refl _ | refine grow_ext _ ?_ | refine grow_alloc _ ?_ | refine grow_drew ?_))))).mono ?_; rintro e w' ⟨rfl, x1, rfl⟩
  go_wp2_with fail
  go_at_call 22
  refine (containsFunc_cPt _ enters_lright1 #[] (fun q => !nearB q 1048576) l _ _ (HV.out.below (by (repeat (first | exact grow_refl _ | refine grow_ext _ ?_ | refine grow_alloc _ ?_ | refine grow_drew ?_)))) (fun b x _ => H1.out b _)).mono ?_
  rintro e w' ⟨rfl, x4, rfl⟩
  rw [HA.out]
  go_wp2_with fail
  go_at_call 16; refine (rRight_v p _ HNP.out _).mono ?_; rintro e w' ⟨rfl, x5, rfl⟩
  go_wp2_with fail
  go_at_call 24; refine (rReach_v reach _ HR.out _).mono ?_; rintro e w' ⟨rfl, x6, rfl⟩
  go_wp2_with fail
  go_at_call 25; refine (HRR.out _ (HV.out.below (by (repeat (first | exact grow_refl _ | refine grow_ext _ ?_ | refine grow_alloc _ ?_ | refine grow_drew ?_))))).mono ?_; rintro e w' ⟨rfl, x7, rfl⟩
  go_wp2
  go_ret
  exact Ret.of (by (repeat (first | exact grow_refl _ | refine grow_ext _ ?_ | refine grow_alloc _ ?_ | refine grow_drew ?_)))

end Go.Proofs.YtmoechhfjmemaaaGreat

/- PokG, PokH, PokI in one text. -/
import Derived.Test.YtmoechhfjmemaaaGreatPokK2
import Derived.Test.YtmoechhfjmemaaaGreatRefMK
namespace Go.Proofs.YtmoechhfjmemaaaGreat
open Go.RowKit
set_option maxRecDepth 20000

theorem valid_pt (p : Pt) : validB ⟨p.x, p.y, p.z, p.x, p.y, p.z⟩ = nearB p 1048576 := by
  rw [Bool.eq_iff_iff, valid_iff, near_iff]; unfold NearP; simp only; omega
theorem refValid22_v (b : Bx) (r : Bool) (h : validB b = r) (w : World) : Calls Tryz.prog 57 #[(.agg #[.int .i64 b.lx, .int .i64 b.ly, .int .i64 b.lz, .int .i64 b.hx, .int .i64 b.hy, .int .i64 b.hz])] w (Ret w (.bool r)) := by subst h; exact refValid_c b w
theorem rRight_v (p : Pt) (r : Bool) (h : nearB p 1048576 = r) (w : World) : Calls Tryz.prog 16 #[(.agg #[.int .i64 p.x, .int .i64 p.y, .int .i64 p.z])] w (Ret w (.bool r)) := by
  have HV := Lib.hid (fun w => refValid22_v ⟨p.x, p.y, p.z, p.x, p.y, p.z⟩ r (by rw [valid_pt, h]) w)
  clear h
  go_enter Tryz.func16, Tryz.ntmps16
  go_wp2_with fail
  go_at_call 57; refine (HV.out _).mono ?_; rintro e w' ⟨rfl, x1, rfl⟩
  go_wp2
  go_ret
  exact Ret.of (by (repeat (first | exact grow_refl _ | refine grow_ext _ ?_ | refine grow_alloc _ ?_ | refine grow_drew ?_)))
theorem rReach_v (n : Int) (r : Bool) (h : decide (0 ≤ n ∧ n ≤ 1048576) = r) (w : World) : Calls Tryz.prog 24 #[.int .i64 n] w (Ret w (.bool r)) := by
  rw [Bool.decide_and] at h
  by_cases h1 : 0 ≤ n
  · have d1 : decide (0 ≤ n) = true := decide_eq_true h1
    rw [d1, Bool.true_and] at h
    go_enter Tryz.func24, Tryz.ntmps24
    go_wp2
    go_ret
    exact Ret.of (by (repeat (first | exact grow_refl _ | refine grow_ext _ ?_ | refine grow_alloc _ ?_ | refine grow_drew ?_)))
  · have d1 : decide (0 ≤ n) = false := decide_eq_false h1
    rw [d1, Bool.false_and] at h
    subst h
    go_enter Tryz.func24, Tryz.ntmps24
    go_wp2
    go_ret
    exact Ret.of (by (repeat (first | exact grow_refl _ | refine grow_ext _ ?_ | refine grow_alloc _ ?_ | refine grow_drew ?_)))
theorem rFar_v (a b n : Int) (ha : -1048576 ≤ a ∧ a ≤ 1048576) (hb : -1048576 ≤ b ∧ b ≤ 1048576) (r : Bool) (h : decide (max (a - b) (b - a) ≤ n) = r) (w : World) : Calls Tryz.prog 69 #[.int .i64 a, .int .i64 b, .int .i64 n] w (Ret w (.bool (!r))) := by
  by_cases h1 : n < a - b
  · have d1 : decide (n < a - b) = true := decide_eq_true h1
    obtain rfl : false = r := by rw [← h]; symm; simp; omega
    clear h
    go_enter Tryz.func69, Tryz.ntmps69
    go_wp2
    go_ret
    exact Ret.of (by (repeat (first | exact grow_refl _ | refine grow_ext _ ?_ | refine grow_alloc _ ?_ | refine grow_drew ?_)))
  · have d1 : decide (n < a - b) = false := decide_eq_false h1
    have d2 : decide (n < b - a) = !r := by rw [← h, ← decide_not]; apply decide_eq_decide.2; omega
    clear h h1
    cases r
    all_goals
      simp only [Bool.not_false, Bool.not_true] at d2
      go_enter Tryz.func69, Tryz.ntmps69
      go_wp2
      go_ret
      exact Ret.of (by (repeat (first | exact grow_refl _ | refine grow_ext _ ?_ | refine grow_alloc _ ?_ | refine grow_drew ?_)))

set_option maxRecDepth 100000 in
set_option maxHeartbeats 4000000 in
theorem rReached_c (l : List Pt) (v : Value) (reach : Int) (p : Pt) (hp : NearP p 1048576) (hn : ∀ q ∈ l, NearP q 1048576) (hr : 0 ≤ reach ∧ reach ≤ 1048576) (w : World) (hv : Pts w v l) :
    Calls Tryz.prog 25 #[v, .int .i64 reach, (.agg #[.int .i64 p.x, .int .i64 p.y, .int .i64 p.z])] w (Ret w (.bool (reachedB l reach p))) := by
  obtain ⟨p1, p2, p3⟩ := hp
  have HN := Lib.hid hn
  obtain ⟨a, cap, rfl, c1, c2, c3⟩ := hv.shape
  have C3 := Lib.hid c3
  clear hv hn c3
  go_enter Tryz.func25, Tryz.ntmps25
  go_wp2_with fail
  refine world_mask (fun W => (∃ z, W = ext w z) ∧ PtAt W w.heap.size 0 p) _ ⟨ext_of (by (repeat (first | exact grow_refl _ | refine grow_ext _ ?_ | refine grow_alloc _ ?_ | refine grow_drew ?_))), by simp [PtAt, go_sem]⟩ ?_
  rintro W1 ⟨hbe, hp1⟩
  have HBE := Lib.hid hbe
  have HP1 := Lib.hid hp1
  clear hbe hp1
  go_loopw [7] (fun i wr => ∃ k : Nat, k ≤ l.length ∧ i = .int .i64 k ∧ (∀ j (h : j < k) (h' : j < l.length), inReach reach p l[j] = false) ∧ (∃ x, wr = ext W1 x)) (fun i _ => l.length - (intOf i).toNat)
  case atStart => exact ⟨0, Nat.zero_le _, rfl, fun j h => absurd h (Nat.not_lt_zero _), ext_of (by (repeat (first | exact grow_refl _ | refine grow_ext _ ?_ | refine grow_alloc _ ?_ | refine grow_drew ?_)))⟩
  case round =>
    obtain ⟨k, hk, rfl, hno, ⟨x, rfl⟩⟩ := hrel
    have HNO := Lib.hid hno
    have HZ := Lib.hid (show ∃ z, ext W1 x = ext w z by obtain ⟨z, e⟩ := HBE.out; rw [e, ext_ext]; exact ⟨_, rfl⟩)
    clear hno
    by_cases hlt : k < l.length
    · obtain ⟨g, o, rfl, hcc⟩ := C3.out k hlt
      have hcc : PtAt W1 g (o + k * 3) l[k] := by obtain ⟨z, e⟩ := HBE.out; rw [e]; exact hcc.ext z
      obtain ⟨n0, n1, n2⟩ := hcc.ext x
      obtain ⟨m0, m1, m2⟩ := HP1.out.ext x
      simp only [Nat.zero_add] at m1 m2
      have i1 : (0 : Int) ≤ (k : Int) := by omega
      have i2 : (k : Int) < (l.length : Int) := by omega
      obtain ⟨q1, q2, q3⟩ := HN.out _ (List.getElem_mem hlt)
      have HST := Lib.hid (show inReach reach p l[k] = false → ∀ j (h : j < k + 1) (h' : j < l.length), inReach reach p l[j] = false from fun hf j h1 h2 => by
        rcases Nat.lt_or_ge j k with h | h
        · exact HNO.out j h h2
        · obtain rfl : j = k := by omega
          exact hf)
      have HYES := Lib.hid (show inReach reach p l[k] = true → reachedB l reach p = true from fun hf => List.any_eq_true.2 ⟨_, List.getElem_mem hlt, hf⟩)
      obtain ⟨q, hq⟩ : ∃ q, l[k] = q := ⟨_, rfl⟩
      rw [hq] at n0 n1 n2 q1 q2 q3 HST HYES
      have HE := Lib.hid (show inReach reach p q = (decide (max (p.x - q.x) (q.x - p.x) ≤ reach) && (decide (max (p.y - q.y) (q.y - p.y) ≤ reach) && decide (q.z - reach ≤ p.z))) from rfl)
      clear hq hcc
      obtain ⟨b1, h1⟩ : ∃ b, decide (max (p.x - q.x) (q.x - p.x) ≤ reach) = b := ⟨_, rfl⟩
      obtain ⟨b2, h2⟩ : ∃ b, decide (max (p.y - q.y) (q.y - p.y) ≤ reach) = b := ⟨_, rfl⟩
      obtain ⟨b3, h3⟩ : ∃ b, decide (q.z - reach ≤ p.z) = b := ⟨_, rfl⟩
      rw [h1, h2, h3] at HE
      have H1 := Lib.hid (fun w => rFar_v p.x q.x reach p1 q1 b1 h1 w)
      have H2 := Lib.hid (fun w => rFar_v p.y q.y reach p2 q2 b2 h2 w)
      clear h1 h2 p1 p2 q1 q2
      cases b1
      · simp only [Bool.not_false] at H1
        go_wp2_with fail
        go_at_call 69; refine (H1.out _).mono ?_; rintro e w' ⟨rfl, y1, rfl⟩
        go_wp2
        go_roundw
        case rel => exact ⟨k + 1, by omega, by go_num, HST.out (by rw [HE.out]; rfl), ext_of (by (repeat (first | exact grow_refl _ | refine grow_ext _ ?_ | refine grow_alloc _ ?_ | refine grow_drew ?_)))⟩
        case measure => simp [intOf]; omega
      cases b2
      · simp only [Bool.not_false, Bool.not_true] at H1 H2
        go_wp2_with fail
        go_at_call 69; refine (H1.out _).mono ?_; rintro e w' ⟨rfl, y1, rfl⟩
        go_wp2_with fail
        go_at_call 69; refine (H2.out _).mono ?_; rintro e w' ⟨rfl, y2, rfl⟩
        go_wp2
        go_roundw
        case rel => exact ⟨k + 1, by omega, by go_num, HST.out (by rw [HE.out]; rfl), ext_of (by (repeat (first | exact grow_refl _ | refine grow_ext _ ?_ | refine grow_alloc _ ?_ | refine grow_drew ?_)))⟩
        case measure => simp [intOf]; omega
      simp only [Bool.not_true] at H1 H2
      cases b3
      all_goals
        go_wp2_with fail
        go_at_call 69; refine (H1.out _).mono ?_; rintro e w' ⟨rfl, y1, rfl⟩
        go_wp2_with fail
        go_at_call 69; refine (H2.out _).mono ?_; rintro e w' ⟨rfl, y2, rfl⟩
        go_wp2
      · go_roundw
        case rel => exact ⟨k + 1, by omega, by go_num, HST.out (by rw [HE.out]; rfl), ext_of (by (repeat (first | exact grow_refl _ | refine grow_ext _ ?_ | refine grow_alloc _ ?_ | refine grow_drew ?_)))⟩
        case measure => simp [intOf]; omega
      · go_ret
        obtain ⟨z, ez⟩ := HZ.out
        rw [ez, HYES.out (by rw [HE.out]; rfl)]
        exact Ret.of (by (repeat (first | exact grow_refl _ | refine grow_ext _ ?_ | refine grow_alloc _ ?_ | refine grow_drew ?_)))
    · obtain rfl : k = l.length := by omega
      go_wp2
      go_ret
      obtain ⟨z, ez⟩ := HZ.out
      rw [ez, show reachedB l reach p = false from List.any_eq_false.2 fun q hq => by
        obtain ⟨j, hj, rfl⟩ := List.getElem_of_mem hq
        simp [HNO.out j hj hj]]
      exact Ret.of (by (repeat (first | exact grow_refl _ | refine grow_ext _ ?_ | refine grow_alloc _ ?_ | refine grow_drew ?_)))

theorem lright1_c (p : Pt) (w : World) : Calls Tryz.prog 23 #[(.agg #[.int .i64 p.x, .int .i64 p.y, .int .i64 p.z])] w (Ret w (.bool (!nearB p 1048576))) := by
  have HR := Lib.hid (fun w => rRight_v p _ rfl w)
  generalize nearB p 1048576 = b at *
  go_enter Tryz.func23, Tryz.ntmps23
  go_wp2_with fail
  go_at_call 16; refine (HR.out _).mono ?_; rintro e w' ⟨rfl, x1, rfl⟩
  go_wp2
  go_ret
  exact Ret.of (by (repeat (first | exact grow_refl _ | refine grow_ext _ ?_ | refine grow_alloc _ ?_ | refine grow_drew ?_)))
theorem enters_lright1 : Enters 23 := enters_of Tryz.func23 (by decide) (by simp [Tryz.f23])

set_option maxRecDepth 100000 in
set_option maxHeartbeats 4000000 in
theorem lawPokerReaches_c (l : List Pt) (v : Value) (reach : Int) (x y z : Int) (_ : -9223372036854775808 ≤ reach ∧ reach ≤ 9223372036854775807) (w : World) (hv : Pts w v l) :
    Calls Tryz.prog 4 #[v, .int .i64 reach, (.agg #[.int .i64 x, .int .i64 y, .int .i64 z])] w (Ret w (.bool true)) := by
  obtain ⟨a, cap, rfl, c1, c2, -⟩ := hv.shape
  have HV := Lib.hid hv
  obtain ⟨p, hp⟩ : ∃ p : Pt, p = ⟨x, y, z⟩ := ⟨_, rfl⟩
  obtain ⟨ex, ey, ez⟩ : p.x = x ∧ p.y = y ∧ p.z = z := by subst hp; exact ⟨rfl, rfl, rfl⟩
  subst ex ey ez
  clear hv hp
  have HRE := Lib.hid (fun B E h w hv => pReached_v l (.slice a l.length cap) reach p B E h w hv)
  have H1 := Lib.hid (show ∀ (b : Pt) (W : World), Calls Tryz.prog 23 (#[(.agg #[.int .i64 b.x, .int .i64 b.y, .int .i64 b.z])] ++ #[]) W (Ret W (.bool (!nearB b 1048576))) from fun b W => lright1_c b W)
  by_cases e1 : 5005 < l.length
  · have d1 : decide ((60 : Int) < (l.length : Int)) = true := by simp; omega
    have d2 : decide ((l.length : Int) ≤ 5000) = false := by simp; omega
    have d3 : decide ((5005 : Int) < (l.length : Int)) = true := by simp; omega
    clear e1
    go_enter Tryz.func4, Tryz.ntmps4
    go_wp2_with fail
    go_at_call 11; refine (awake22_c _).mono ?_; rintro e w' ⟨rfl, x0, rfl⟩
    go_wp2
    go_ret
    exact Ret.of (by (repeat (first | exact grow_refl _ | refine grow_ext _ ?_ | refine grow_alloc _ ?_ | refine grow_drew ?_)))
  by_cases e2 : 5000 < l.length
  · have d1 : decide ((60 : Int) < (l.length : Int)) = true := by simp; omega
    have d2 : decide ((l.length : Int) ≤ 5000) = false := by simp; omega
    have d3 : decide ((5005 : Int) < (l.length : Int)) = false := by simp; omega
    have d4 : decide ((5000 : Int) < (l.length : Int)) = true := by simp; omega
    have HRE := Lib.hid (HRE.out _ _ (show reachedE l reach p = (false, 4) by unfold reachedE; rw [if_pos e2]))
    clear e1 e2
    go_enter Tryz.func4, Tryz.ntmps4
    go_wp2_with fail
    go_at_call 11; refine (awake22_c _).mono ?_; rintro e w' ⟨rfl, x0, rfl⟩
    go_wp2_with fail
    go_at_call 21; refine (HRE.out _ (HV.out.below (by (repeat (first | exact grow_refl _ | refine grow_ext _ ?_ | refine grow_alloc _ ?_ | refine grow_drew ?_))))).mono ?_; rintro e w' ⟨rfl, x1, rfl⟩
    go_wp2
    go_ret
    exact Ret.of (by (repeat (first | exact grow_refl _ | refine grow_ext _ ?_ | refine grow_alloc _ ?_ | refine grow_drew ?_)))
  have d2 : decide ((l.length : Int) ≤ 5000) = true := by simp; omega
  have d3 : decide ((5005 : Int) < (l.length : Int)) = false := by simp; omega
  have d4 : decide ((5000 : Int) < (l.length : Int)) = false := by simp; omega
  by_cases e3 : 60 < l.length
  · have d1 : decide ((60 : Int) < (l.length : Int)) = true := by simp; omega
    clear e1 e2 e3
    go_enter Tryz.func4, Tryz.ntmps4
    go_wp2_with fail
    go_at_call 11; refine (awake22_c _).mono ?_; rintro e w' ⟨rfl, x0, rfl⟩
    go_wp2
    go_ret
    exact Ret.of (by (repeat (first | exact grow_refl _ | refine grow_ext _ ?_ | refine grow_alloc _ ?_ | refine grow_drew ?_)))
  have d1 : decide ((60 : Int) < (l.length : Int)) = false := by simp; omega
  have hre : reachedE l reach p = if nearB p 1048576 = true ∧ 0 ≤ reach ∧ reach ≤ 1048576 ∧ l.all (fun q => nearB q 1048576) = true then (reachedB l reach p, 0) else (false, 2) := by unfold reachedE; rw [if_neg e2]
  clear e1 e2 e3
  have hany : (l.any fun q => !nearB q 1048576) = !(l.all fun q => nearB q 1048576) := by rw [List.not_all_eq_any_not]
  cases ha : l.all fun q => nearB q 1048576
  · rw [ha, if_neg (by simp)] at hre
    have HRE := Lib.hid (HRE.out _ _ hre)
    rw [ha] at hany
    have HA := Lib.hid hany
    clear hre hany ha
    go_enter Tryz.func4, Tryz.ntmps4
    go_wp2_with fail
    go_at_call 11; refine (awake22_c _).mono ?_; rintro e w' ⟨rfl, x0, rfl⟩
    go_wp2_with fail
    go_at_call 21; refine (HRE.out _ (HV.out.below (by (repeat (first | exact grow_refl _ | refine grow_ext _ ?_ | refine grow_alloc _ ?_ | refine grow_drew ?_))))).mono ?_; rintro e w' ⟨rfl, x1, rfl⟩
    go_wp2_with fail
    go_at_call 22
    refine (containsFunc_cPt _ enters_lright1 #[] (fun q => !nearB q 1048576) l _ _ (HV.out.below (by (repeat (first | exact grow_refl _ | refine grow_ext _ ?_ | refine grow_alloc _ ?_ | refine grow_drew ?_)))) (fun b x _ => H1.out b _)).mono ?_
    rintro e w' ⟨rfl, x4, rfl⟩
    rw [HA.out]
    go_wp2
    go_ret
    exact Ret.of (by (repeat (first | exact grow_refl _ | refine grow_ext _ ?_ | refine grow_alloc _ ?_ | refine grow_drew ?_)))
  rw [ha] at hany hre
  have HA := Lib.hid hany
  have HN := Lib.hid (fun q hq => near_iff.1 (List.all_eq_true.1 ha q hq))
  clear hany ha
  cases hn : nearB p 1048576
  · rw [hn, if_neg (by simp)] at hre
    have HRE := Lib.hid (HRE.out _ _ hre)
    have HNP := Lib.hid hn
    clear hre hn
    go_enter Tryz.func4, Tryz.ntmps4
    go_wp2_with fail
    go_at_call 11; refine (awake22_c _).mono ?_; rintro e w' ⟨rfl, x0, rfl⟩
    go_wp2_with fail
    go_at_call 21; refine (HRE.out _ (HV.out.below (by (repeat (first | exact grow_refl _ | refine grow_ext _ ?_ | refine grow_alloc _ ?_ | refine grow_drew ?_))))).mono ?_; rintro e w' ⟨rfl, x1, rfl⟩
    go_wp2_with fail
    go_at_call 22
    refine (containsFunc_cPt _ enters_lright1 #[] (fun q => !nearB q 1048576) l _ _ (HV.out.below (by (repeat (first | exact grow_refl _ | refine grow_ext _ ?_ | refine grow_alloc _ ?_ | refine grow_drew ?_)))) (fun b x _ => H1.out b _)).mono ?_
    rintro e w' ⟨rfl, x4, rfl⟩
    rw [HA.out]
    go_wp2_with fail
    go_at_call 16; refine (rRight_v p _ HNP.out _).mono ?_; rintro e w' ⟨rfl, x5, rfl⟩
    go_wp2
    go_ret
    exact Ret.of (by (repeat (first | exact grow_refl _ | refine grow_ext _ ?_ | refine grow_alloc _ ?_ | refine grow_drew ?_)))
  have HNP := Lib.hid hn
  rw [hn] at hre
  by_cases hr : 0 ≤ reach ∧ reach ≤ 1048576
  case neg =>
    rw [if_neg (fun h => hr ⟨h.2.1, h.2.2.1⟩)] at hre
    have HRE := Lib.hid (HRE.out _ _ hre)
    have HR := Lib.hid (decide_eq_false hr)
    clear hre hn hr
    go_enter Tryz.func4, Tryz.ntmps4
    go_wp2_with fail
    go_at_call 11; refine (awake22_c _).mono ?_; rintro e w' ⟨rfl, x0, rfl⟩
    go_wp2_with fail
    go_at_call 21; refine (HRE.out _ (HV.out.below (by (repeat (first | exact grow_refl _ | refine grow_ext _ ?_ | refine grow_alloc _ ?_ | refine grow_drew ?_))))).mono ?_; rintro e w' ⟨rfl, x1, rfl⟩
    go_wp2_with fail
    go_at_call 22
    refine (containsFunc_cPt _ enters_lright1 #[] (fun q => !nearB q 1048576) l _ _ (HV.out.below (by (repeat (first | exact grow_refl _ | refine grow_ext _ ?_ | refine grow_alloc _ ?_ | refine grow_drew ?_)))) (fun b x _ => H1.out b _)).mono ?_
    rintro e w' ⟨rfl, x4, rfl⟩
    rw [HA.out]
    go_wp2_with fail
    go_at_call 16; refine (rRight_v p _ HNP.out _).mono ?_; rintro e w' ⟨rfl, x5, rfl⟩
    go_wp2_with fail
    go_at_call 24; refine (rReach_v reach _ HR.out _).mono ?_; rintro e w' ⟨rfl, x6, rfl⟩
    go_wp2
    go_ret
    exact Ret.of (by (repeat (first | exact grow_refl _ | refine grow_ext _ ?_ | refine grow_alloc _ ?_ | refine grow_drew ?_)))
  rw [if_pos ⟨rfl, hr.1, hr.2, rfl⟩] at hre
  have HRE := Lib.hid (HRE.out _ _ hre)
  have HR := Lib.hid (decide_eq_true hr)
  have HRR := Lib.hid (fun w hv => rReached_c l (.slice a l.length cap) reach p (near_iff.1 hn) HN.out hr w hv)
  generalize reachedB l reach p = B at *
  clear hre hn hr
  go_enter Tryz.func4, Tryz.ntmps4
  go_wp2_with fail
  go_at_call 11; refine (awake22_c _).mono ?_; rintro e w' ⟨rfl, x0, rfl⟩
  go_wp2_with fail
  go_at_call 21; refine (HRE.out _ (HV.out.below (by (repeat (first | exact grow_refl _ | refine grow_ext _ ?_ | refine grow_alloc _ ?_ | refine grow_drew ?_))))).mono ?_; rintro e w' ⟨rfl, x1, rfl⟩
  go_wp2_with fail
  go_at_call 22
  refine (containsFunc_cPt _ enters_lright1 #[] (fun q => !nearB q 1048576) l _ _ (HV.out.below (by (repeat (first | exact grow_refl _ | refine grow_ext _ ?_ | refine grow_alloc _ ?_ | refine grow_drew ?_)))) (fun b x _ => H1.out b _)).mono ?_
  rintro e w' ⟨rfl, x4, rfl⟩
  rw [HA.out]
  go_wp2_with fail
  go_at_call 16; refine (rRight_v p _ HNP.out _).mono ?_; rintro e w' ⟨rfl, x5, rfl⟩
  go_wp2_with fail
  go_at_call 24; refine (rReach_v reach _ HR.out _).mono ?_; rintro e w' ⟨rfl, x6, rfl⟩
  go_wp2_with fail
  go_at_call 25; refine (HRR.out _ (HV.out.below (by (repeat (first | exact grow_refl _ | refine grow_ext _ ?_ | refine grow_alloc _ ?_ | refine grow_drew ?_))))).mono ?_; rintro e w' ⟨rfl, x7, rfl⟩
  go_wp2
  go_ret
  exact Ret.of (by (repeat (first | exact grow_refl _ | refine grow_ext _ ?_ | refine grow_alloc _ ?_ | refine grow_drew ?_)))

end Go.Proofs.YtmoechhfjmemaaaGreat

namespace Go.Proofs.YtmoechhfjmemaaaGreat
open Go.RowKit
set_option maxRecDepth 20000

theorem run_box_hi (a b c d e f : Int) (w : World) : (Instr.field 34 (.agg #[.int .i64 a, .int .i64 b, .int .i64 c, .int .i64 d, .int .i64 e, .int .i64 f]) 1).run Tryz.prog w = .ok (.agg #[.int .i64 d, .int .i64 e, .int .i64 f]) w := by kernel_rfl
theorem run_pt_z (a b c : Int) (w : World) : (Instr.field 30 (.agg #[.int .i64 a, .int .i64 b, .int .i64 c]) 2).run Tryz.prog w = .ok (.int .i64 c) w := by kernel_rfl
theorem run_bar_size22 (mark : ByteArray) (size count code : Int) (ad : Option Addr) (n cd : Nat) (w : World) :
    (Instr.field 98 (.agg #[.string mark, .int .i64 size, .int .i64 count, .int .i64 code, .slice ad n cd]) 1).run Tryz.prog w = .ok (.int .i64 size) w := by kernel_rfl
attribute [local go_sem] run_box_hi run_pt_z run_bar_size22

theorem rTop_c (q : Mb) (h0 : 0 < q.l.length) (w : World) (hq : MbAt w q) : Calls Tryz.prog 17 #[(.agg #[.string q.name, q.u, q.t, .int .i64 q.cover, .int .i64 q.agg, .int .i64 q.poker])] w (Ret w (.int .i64 (topI q))) := by
  have HQ := Lib.hid hq
  have HH := Lib.hid (fun w hl => refSolHull_c q.l q.u q.t h0 w hl)
  have HE := Lib.hid (show topI q = (hullX q.l).hz from rfl)
  generalize hullX q.l = H at *
  clear hq h0
  go_enter Tryz.func17, Tryz.ntmps17
  go_wp2_with fail
  go_at_call 58; refine (HH.out _ (HQ.out.boxes.below (by (repeat (first | exact grow_refl _ | refine grow_ext _ ?_ | refine grow_alloc _ ?_ | refine grow_drew ?_))))).mono ?_; rintro e w' ⟨rfl, x1, rfl⟩
  go_wp2
  go_ret
  rw [HE.out]
  exact Ret.of (by (repeat (first | exact grow_refl _ | refine grow_ext _ ?_ | refine grow_alloc _ ?_ | refine grow_drew ?_)))

theorem solid_some {l m : List Bx} (h : solidB l m = true) : 0 < l.length := (solid_iff.1 h).1.1
theorem solid_few {l m : List Bx} (h : solidB l m = true) : l.length ≤ 1000 := by have := (solid_iff.1 h).1.2; omega
set_option maxHeartbeats 2000000 in
theorem rColumn_c (q : Mb) (p : Pt) (hk : TipOk q p) (w : World) (hq : MbAt w q) : Calls Tryz.prog 18 #[(.agg #[.string q.name, q.u, q.t, .int .i64 q.cover, .int .i64 q.agg, .int .i64 q.poker]), (.agg #[.int .i64 p.x, .int .i64 p.y, .int .i64 p.z])] w (Ret w (.agg #[.int .i64 (colX q p).lx, .int .i64 (colX q p).ly, .int .i64 (colX q p).lz, .int .i64 (colX q p).hx, .int .i64 (colX q p).hy, .int .i64 (colX q p).hz])) := by
  obtain ⟨hs, k1, k2, hx, hy⟩ := hk
  have HQ := Lib.hid hq
  have HT := Lib.hid (fun w hq => rTop_c q (solid_some hs) w hq)
  have e1 : Int.tdiv (q.poker + 1) 2 = (q.poker + 1) / 2 := Int.tdiv_eq_ediv_of_nonneg (by omega)
  have HE := Lib.hid (show colX q p = ⟨p.x - (q.poker + 1) / 2, p.y - (q.poker + 1) / 2, p.z, p.x + (q.poker + 1) / 2, p.y + (q.poker + 1) / 2, topI q⟩ from rfl)
  obtain ⟨h, hh⟩ : ∃ h, (q.poker + 1) / 2 = h := ⟨_, rfl⟩
  have h0 : 0 ≤ h ∧ h ≤ 101 := by omega
  rw [hh] at e1 HE
  generalize colX q p = C at *
  generalize topI q = T at *
  clear hq hs hh
  go_enter Tryz.func18, Tryz.ntmps18
  go_wp2_with fail
  refine wp_region_tail 23 (by kernel_rfl) (by kernel_rfl) ?_; simp only [List.take_succ_cons, List.take_zero, List.drop_succ_cons, List.drop_zero]
  repeat (go_big_quiet_step ((go_at_call 17; exact Calls.quiet_ext (HT.out _ (HQ.out.below (by (repeat (first | exact grow_refl _ | refine grow_ext _ ?_ | refine grow_alloc _ ?_ | refine grow_drew ?_))))))))
  refine wpQuiet_nil ?_; rintro _ ⟨xq, rfl⟩
  go_wp2
  rw [HE.out]
  refine bodyPost_ret (v := .agg #[.int .i64 (p.x - h), .int .i64 (p.y - h), .int .i64 p.z, .int .i64 (p.x + h), .int .i64 (p.y + h), .int .i64 T]) (by simp [results, Tryz.results18, go_sem]) rfl ?_
  exact Ret.of (by (repeat (first | exact grow_refl _ | refine grow_ext _ ?_ | refine grow_alloc _ ?_ | refine grow_drew ?_)))

theorem gapI_comm (a b : Bx) : gapI a b = gapI b a := by
  unfold gapI alongI
  rw [Int.max_comm (b.lo 0 - a.hi 0), Int.max_comm (b.lo 1 - a.hi 1), Int.max_comm (b.lo 2 - a.hi 2)]
theorem clear_append (C : Bx) (A B : List Rc) : clearB C (A ++ B) = (clearB C A && clearB C B) := by unfold clearB; rw [List.all_append]
theorem clear_upto {C : Bx} {l : List Br} {rs : List Rn} {n m : Nat} (h : n ≤ m) (hc : clearB C (rodsTo l rs m) = true) : clearB C (rodsTo l rs n) = true := by
  induction m with
  | zero => obtain rfl : n = 0 := by omega
            exact hc
  | succ m ih =>
    rw [rodsTo_succ, clear_append, Bool.and_eq_true] at hc
    by_cases hn : n = m + 1
    · subst hn; rw [rodsTo_succ, clear_append, hc.1, hc.2]; rfl
    · exact ih (by omega) hc.1
theorem clear_not {C : Bx} {l : List Br} {rs : List Rn} {n m : Nat} (h : n < m) (hc : clearB C (rodsAt l rs n) = false) : clearB C (rodsTo l rs m) = false := by
  cases hm : clearB C (rodsTo l rs m)
  · rfl
  · have := clear_upto (n := n + 1) h hm
    rw [rodsTo_succ, clear_append, hc, Bool.and_false] at this
    exact this.symm
theorem clear_take {C : Bx} {H : Int} {L : List Bx} {k : Nat} (hk : k < L.length) : clearB C ((L.take (k + 1)).map fun b => ⟨b, H⟩) = (clearB C ((L.take k).map fun b => ⟨b, H⟩) && decide (H ≤ gapI L[k] C)) := by
  rw [List.take_succ_eq_append_getElem hk, List.map_append, clear_append]
  unfold clearB; simp
theorem clear_one {C : Bx} {H : Int} {L : List Bx} {k : Nat} (hk : k < L.length) (h : ¬ H ≤ gapI L[k] C) : clearB C (L.map fun b => ⟨b, H⟩) = false := by
  unfold clearB
  rw [List.all_eq_false]
  exact ⟨⟨L[k], H⟩, List.mem_map.2 ⟨_, List.getElem_mem hk, rfl⟩, by simpa using h⟩

/-- The bar of a laid bar: its mark, and its dimensions as a slice. -/
theorem bar_form22 {l : List Br} {rs : List Rn} {v : Value} {w : World} (hv : laidB l rs = true) (hl : Bars w v l) {i : Int} (h0 : 0 ≤ i) (hi : i < countS rs) :
    ∃ mark count code ad n cd dims, barOf l (markI rs i) = ⟨mark, sizeI l rs i, count, code, dims, .slice ad n cd⟩ := by
  obtain ⟨qq, hqq, eb⟩ := List.getElem_of_mem (bar_mem (mark_of hv h0 hi).2.1)
  obtain ⟨_, _, -, -, -, g4⟩ := hl.shape
  obtain ⟨ad, cd, ev, -, -, -⟩ := (g4 qq hqq).1.dims
  rw [eb] at ev
  have hsz : (barOf l (markI rs i)).size = sizeI l rs i := rfl
  generalize barOf l (markI rs i) = b at *
  obtain ⟨mark, size, count, code, dims, dv⟩ := b
  simp only at *
  subst hsz ev
  exact ⟨_, _, _, _, _, _, _, rfl⟩

set_option maxRecDepth 100000 in
set_option maxHeartbeats 8000000 in
theorem rFree_v (q : Mb) (l : List Br) (rs : List Rn) (v u : Value) (p : Pt) (r : Bool) (h : freeR q (rodsI l rs) p = r) (hk : TipOk q p) (hv : laidB l rs = true) (w : World) (hq : MbAt w q) (hl : Bars w v l) (hr : Runs w u rs) :
    Calls Tryz.prog 20 #[(.agg #[.string q.name, q.u, q.t, .int .i64 q.cover, .int .i64 q.agg, .int .i64 q.poker]), v, u, (.agg #[.int .i64 p.x, .int .i64 p.y, .int .i64 p.z])] w (Ret w (.bool r)) := by
  have HQ := Lib.hid hq
  have HL := Lib.hid hl
  have HR := Lib.hid hr
  have HCO := Lib.hid (fun w hq => rColumn_c q p hk w hq)
  have hs := hk.solid
  unfold freeR at h
  obtain ⟨C, hC⟩ : ∃ C, colX q p = C := ⟨_, rfl⟩
  rw [hC] at HCO h
  clear hq hl hr hk hC
  cases hc : validB C
  · rw [hc, Bool.false_and] at h
    subst h
    have HC := Lib.hid hc
    clear hc hs hv
    go_enter Tryz.func20, Tryz.ntmps20
    go_wp2_with fail
    go_at_call 18; refine (HCO.out _ (HQ.out.below (by (repeat (first | exact grow_refl _ | refine grow_ext _ ?_ | refine grow_alloc _ ?_ | refine grow_drew ?_))))).mono ?_; rintro e w' ⟨rfl, x1, rfl⟩
    go_wp2_with fail
    go_at_call 57; refine (refValid22_v C _ HC.out _).mono ?_; rintro e w' ⟨rfl, x2, rfl⟩
    go_wp2
    go_ret
    exact Ret.of (by (repeat (first | exact grow_refl _ | refine grow_ext _ ?_ | refine grow_alloc _ ?_ | refine grow_drew ?_)))
  rw [hc, Bool.true_and] at h
  have HC := Lib.hid hc
  have HS := Lib.hid (fun (b : Bool) (e : containsS q.l q.m C = b) w hl hm => refContains17_v q.l q.m q.u q.t C b e (solid_few hs) (Ord.of_valid hc) w hl hm)
  cases hi : containsS q.l q.m C
  · rw [hi, Bool.false_and] at h
    subst h
    have HI := Lib.hid (HS.out _ hi)
    clear hc hs hi hv HS
    go_enter Tryz.func20, Tryz.ntmps20
    go_wp2_with fail
    go_at_call 18; refine (HCO.out _ (HQ.out.below (by (repeat (first | exact grow_refl _ | refine grow_ext _ ?_ | refine grow_alloc _ ?_ | refine grow_drew ?_))))).mono ?_; rintro e w' ⟨rfl, x1, rfl⟩
    go_wp2_with fail
    go_at_call 57; refine (refValid22_v C _ HC.out _).mono ?_; rintro e w' ⟨rfl, x2, rfl⟩
    go_wp2_with fail
    go_at_call 60; refine (HI.out _ (HQ.out.boxes.below (by (repeat (first | exact grow_refl _ | refine grow_ext _ ?_ | refine grow_alloc _ ?_ | refine grow_drew ?_)))) (HQ.out.holes.below (by (repeat (first | exact grow_refl _ | refine grow_ext _ ?_ | refine grow_alloc _ ?_ | refine grow_drew ?_))))).mono ?_; rintro e w' ⟨rfl, x3, rfl⟩
    go_wp2
    go_ret
    exact Ret.of (by (repeat (first | exact grow_refl _ | refine grow_ext _ ?_ | refine grow_alloc _ ?_ | refine grow_drew ?_)))
  rw [hi, Bool.true_and] at h
  have HI := Lib.hid (HS.out _ hi)
  have HV := Lib.hid hv
  have HH := Lib.hid (show clearB C (rodsTo l rs (countS rs).toNat) = r from h)
  have HCO2 := Lib.hid (fun w hr => refCount16_c rs u (laidB_iff.1 hv).2.1 (laid_counts hv) w hr)
  have hm := laid_most hv
  have h0 : 0 ≤ countS rs := countS_nonneg (laidB_iff.1 hv).2.2.1
  have HBF := Lib.hid (fun (k : Nat) (hk : (k : Int) < countS rs) => bar_form22 hv HL.out (i := (k : Int)) (by omega) hk)
  have HBA := Lib.hid (fun (k : Nat) (hk : (k : Int) < countS rs) w hl hr => refBar_c l rs v u k hv (by omega) hk w hl hr)
  have HLG := Lib.hid (fun (k : Nat) (hk : (k : Int) < countS rs) w hl hr => refLegs_c l rs v u k hv (by omega) hk w hl hr)
  have HLV := Lib.hid (fun (k : Nat) (hk : (k : Int) < countS rs) => legsI_valid hv (i := (k : Int)) (by omega) hk)
  have HSZ := Lib.hid (fun (k : Nat) (hk : (k : Int) < countS rs) => size_of hv (i := (k : Int)) (by omega) hk)
  have HNO := Lib.hid (fun (k : Nat) (hk : (k : Int) < countS rs) (hf : clearB C (rodsAt l rs k) = false) => clear_not (C := C) (l := l) (rs := rs) (show k < (countS rs).toNat by omega) hf)
  have HST := Lib.hid (fun k => rodsTo_succ l rs k)
  generalize countS rs = N at *
  clear hc hs hi hv HS h
  go_enter Tryz.func20, Tryz.ntmps20
  go_wp2_with fail
  go_at_call 18; refine (HCO.out _ (HQ.out.below (by (repeat (first | exact grow_refl _ | refine grow_ext _ ?_ | refine grow_alloc _ ?_ | refine grow_drew ?_))))).mono ?_; rintro e w' ⟨rfl, x1, rfl⟩
  go_wp2_with fail
  go_at_call 57; refine (refValid22_v C _ HC.out _).mono ?_; rintro e w' ⟨rfl, x2, rfl⟩
  go_wp2_with fail
  go_at_call 60; refine (HI.out _ (HQ.out.boxes.below (by (repeat (first | exact grow_refl _ | refine grow_ext _ ?_ | refine grow_alloc _ ?_ | refine grow_drew ?_)))) (HQ.out.holes.below (by (repeat (first | exact grow_refl _ | refine grow_ext _ ?_ | refine grow_alloc _ ?_ | refine grow_drew ?_))))).mono ?_; rintro e w' ⟨rfl, x3, rfl⟩
  go_wp2_with fail
  refine world_mask (fun W => (∃ z, W = ext w z) ∧ BoxAt W (w.heap.size + 1 + 1 + x1.heap.size) 0 C) _ ⟨ext_of (by (repeat (first | exact grow_refl _ | refine grow_ext _ ?_ | refine grow_alloc _ ?_ | refine grow_drew ?_))), by simp [BoxAt, go_sem]⟩ ?_
  rintro W1 ⟨hbe, hb1⟩
  have HBE := Lib.hid (show Below w.heap.size w W1 by obtain ⟨z, rfl⟩ := hbe; exact below_ext _ _)
  have HB1 := Lib.hid hb1
  clear hbe hb1
  go_loopw [10] (fun i wr => ∃ k : Nat, (k : Int) ≤ N ∧ i = .int .i64 k ∧ clearB C (rodsTo l rs k) = true ∧ (∃ z, wr = ext W1 z)) (fun i _ => N.toNat - (intOf i).toNat)
  case atStart => exact ⟨0, by omega, rfl, rfl, ext_of (Below.refl _ _)⟩
  case round =>
    obtain ⟨k, hk, rfl, hcl, ⟨z, rfl⟩⟩ := hrel
    have HCL := Lib.hid hcl
    have HBZ := Lib.hid (show Below w.heap.size w (ext W1 z) from HBE.out.trans ((below_ext W1 z).mono HBE.out.size))
    clear hcl
    by_cases hlt : (k : Int) < N
    · have q1 : (0 : Int) ≤ (k : Int) := by omega
      have HBB := Lib.hid (HBA.out k hlt)
      have HLK := Lib.hid (HLG.out k hlt)
      obtain ⟨mark, count, code, ad, dn, cd, dims, hbf⟩ := HBF.out k hlt
      rw [hbf] at HBB
      simp only at HBB
      have hsz := size_iff.1 (HSZ.out k hlt)
      have HNK := Lib.hid (HNO.out k hlt)
      have HLO := Lib.hid (HLV.out k hlt)
      have HSK := Lib.hid (HST.out k)
      have hra : rodsAt l rs k = (legsI l rs k).map fun b => ⟨b, halfI (sizeI l rs k)⟩ := rfl
      rw [hra] at HNK HSK
      have hd : 0 ≤ sizeI l rs k ∧ sizeI l rs k ≤ 1000000 := by omega
      have HRD := Lib.hid (fun w => refRound21_c (sizeI l rs k) hd w)
      have hll : (legsI l rs k).length ≤ 6 := by
        have h2 := pathI_len l rs k
        have h3 : (legsI l rs k).length = (pathI l rs k).length - 1 := legsP_len _
        omega
      generalize legsI l rs k = LG at *
      generalize halfI (sizeI l rs k) = H at *
      generalize sizeI l rs k = SZ at *
      clear hbf hsz hra
      go_wp2_with fail
      go_at_call 61; refine (HCO2.out _ (HR.out.below HBZ.out)).mono ?_; rintro e w' ⟨rfl, y1, rfl⟩
      go_wp2_with fail
      go_at_call 63; refine (HBB.out _ ((HL.out.below HBZ.out).below (by (repeat (first | exact grow_refl _ | refine grow_ext _ ?_ | refine grow_alloc _ ?_ | refine grow_drew ?_)))) ((HR.out.below HBZ.out).below (by (repeat (first | exact grow_refl _ | refine grow_ext _ ?_ | refine grow_alloc _ ?_ | refine grow_drew ?_))))).mono ?_; rintro e w' ⟨rfl, y2, rfl⟩
      go_wp2_with fail
      go_at_call 62; refine (HRD.out _).mono ?_; rintro e w' ⟨rfl, y3, rfl⟩
      go_wp2_with fail
      go_at_call 64; refine (HLK.out _ ((HL.out.below HBZ.out).below (by (repeat (first | exact grow_refl _ | refine grow_ext _ ?_ | refine grow_alloc _ ?_ | refine grow_drew ?_)))) ((HR.out.below HBZ.out).below (by (repeat (first | exact grow_refl _ | refine grow_ext _ ?_ | refine grow_alloc _ ?_ | refine grow_drew ?_))))).mono ?_; rintro e w' ⟨v2, rfl, hown, y4, rfl⟩
      have HBX := Lib.hid (Boxes.of_own hown)
      obtain ⟨a2, c2, rfl, k2, m2, -⟩ := own_shape hown
      have n2 : c2 ≤ 9223372036854775807 := m2
      clear hown
      go_wp2_with fail
      refine world_mask (fun W => (∃ z, W = ext W1 z) ∧ Boxes W (.slice a2 LG.length c2) LG) _ ⟨ext_of (by (repeat (first | exact grow_refl _ | refine grow_ext _ ?_ | refine grow_alloc _ ?_ | refine grow_drew ?_))), HBX.out⟩ ?_
      clear HBX
      rintro W2 ⟨hz2, hb2⟩
      have HZ2 := Lib.hid hz2
      have HB2 := Lib.hid hb2
      clear hz2 hb2
      go_loopw [13] (fun i wr => ∃ j : Nat, j ≤ LG.length ∧ i = .int .i64 j ∧ clearB C ((LG.take j).map fun b => (⟨b, H⟩ : Rc)) = true ∧ (∃ z, wr = ext W2 z)) (fun i _ => LG.length - (intOf i).toNat)
      case atStart => exact ⟨0, by omega, rfl, rfl, ext_of (Below.refl _ _)⟩
      case round =>
        obtain ⟨j, hj, rfl, hcj, ⟨z3, rfl⟩⟩ := hrel
        have HCJ := Lib.hid hcj
        have HZ3 := Lib.hid (show ∃ z, ext W2 z3 = ext W1 z by obtain ⟨z, e⟩ := HZ2.out; rw [e, ext_ext]; exact ⟨_, rfl⟩)
        clear hcj
        by_cases hltj : j < LG.length
        · have q5 : (0 : Int) ≤ (j : Int) := by omega
          have q6 : (j : Int) < (LG.length : Int) := by omega
          obtain ⟨a', c', e', -, -, h5⟩ := HB2.out
          cases e'
          obtain ⟨b0, o0, rfl, hbx⟩ := h5 j hltj
          have HTK := Lib.hid (clear_take (C := C) (H := H) hltj)
          have HON := Lib.hid (fun h => clear_one (C := C) (H := H) hltj h)
          have hlv := HLO.out _ (List.getElem_mem hltj)
          obtain ⟨L, hL⟩ : ∃ L, LG[j] = L := ⟨_, rfl⟩
          rw [hL] at hbx HTK HON hlv
          have HG := Lib.hid (fun w => refGap_c C L (Bd.of_valid HC.out) (Bd.of_valid hlv) w)
          rw [gapI_comm] at HG
          obtain ⟨c0, c1, c2', c3, c4, c5⟩ := hbx.ext z3
          have hbc : BoxAt (ext W2 z3) (w.heap.size + 1 + 1 + x1.heap.size) 0 C := by obtain ⟨zz, e⟩ := HZ3.out; rw [e]; exact HB1.out.ext zz
          obtain ⟨d0, d1, d2, d3, d4, d5⟩ := hbc
          simp only [Nat.zero_add] at d1 d2 d3 d4 d5
          generalize gapI L C = G at *
          clear h5 hL hbx hlv
          by_cases hg : H ≤ G
          · have dg : decide (G < H) = false := by simp; omega
            rw [decide_eq_true hg, Bool.and_true] at HTK
            clear hg
            go_wp2_with fail
            refine wp_region_grows (by kernel_rfl) (by kernel_rfl) ?_
            repeat (go_big_quiet_step ((go_at_call 65; exact Calls.quiet_ext (HG.out _))))
            refine wpQuiet_nil ?_; rintro _ ⟨xq, rfl⟩
            clear c0 c1 c2' c3 c4 c5 d0 d1 d2 d3 d4 d5
            go_wp2
            go_roundw
            case rel => exact ⟨j + 1, by omega, by go_num, by rw [HTK.out]; exact HCJ.out, ext_of (by (repeat (first | exact grow_refl _ | refine grow_ext _ ?_ | refine grow_alloc _ ?_ | refine grow_drew ?_)))⟩
            case measure => simp [intOf]; omega
          · have dg : decide (G < H) = true := by simp; omega
            have hf := HNK.out (HON.out hg)
            rw [HH.out] at hf
            subst hf
            clear hg
            go_wp2_with fail
            refine wp_region_grows (by kernel_rfl) (by kernel_rfl) ?_
            repeat (go_big_quiet_step ((go_at_call 65; exact Calls.quiet_ext (HG.out _))))
            refine wpQuiet_nil ?_; rintro _ ⟨xq, rfl⟩
            clear c0 c1 c2' c3 c4 c5 d0 d1 d2 d3 d4 d5
            go_wp2
            go_ret
            refine Ret.of (HBE.out.trans (Below.mono ?_ HBE.out.size))
            obtain ⟨zz, e⟩ := HZ3.out
            rw [e]
            (repeat (first | exact grow_refl _ | refine grow_ext _ ?_ | refine grow_alloc _ ?_ | refine grow_drew ?_))
        · obtain rfl : j = LG.length := by omega
          rw [List.take_length] at HCJ
          go_wp2
          go_roundw
          case rel => exact ⟨k + 1, by omega, by go_num, by rw [HSK.out, clear_append, HCL.out, HCJ.out]; rfl, HZ3.out⟩
          case measure => simp [intOf]; omega
    · obtain rfl : k = N.toNat := by omega
      have hf := HCL.out
      rw [HH.out] at hf
      subst hf
      go_wp2_with fail
      go_at_call 61; refine (HCO2.out _ (HR.out.below HBZ.out)).mono ?_; rintro e w' ⟨rfl, y1, rfl⟩
      go_wp2
      go_ret
      exact Ret.of (HBZ.out.trans (Below.mono (by (repeat (first | exact grow_refl _ | refine grow_ext _ ?_ | refine grow_alloc _ ?_ | refine grow_drew ?_))) HBZ.out.size))

end Go.Proofs.YtmoechhfjmemaaaGreat

namespace Go.Proofs.YtmoechhfjmemaaaGreat
open Go.RowKit
set_option maxRecDepth 20000

set_option maxHeartbeats 2000000 in
theorem few22_c (q : Mb) (l : List Br) (rs : List Rn) (v u : Value) (w : World) (hq : MbAt w q) (hl : Bars w v l) (hr : Runs w u rs) :
    Calls Tryz.prog 12 #[(.agg #[.string q.name, q.u, q.t, .int .i64 q.cover, .int .i64 q.agg, .int .i64 q.poker]), v, u] w (RetB w) := by
  have HQ := Lib.hid hq
  have HL := Lib.hid hl
  have HR := Lib.hid hr
  have hN := hq.name
  have HS := Lib.hid (fun r h w hl hm => refSmall_v q.l q.m q.u q.t 5 r h w hl hm)
  have H16 := Lib.hid (fun w hl hr => refSmall16_c l rs v u 6 14 (by omega) (by omega) w hl hr)
  clear hq hl hr
  by_cases h1 : q.name.size ≤ 60
  · have d1 : decide ((q.name.size : Int) ≤ 60) = true := by simp; omega
    cases h : smallB q.l.length q.m.length 5
    · have H := Lib.hid h
      clear h
      go_enter Tryz.func12, Tryz.ntmps12
      go_wp2_with fail
      go_at_call 47; refine (HS.out _ H.out _ (HQ.out.boxes.below (by (repeat (first | exact grow_refl _ | refine grow_ext _ ?_ | refine grow_alloc _ ?_ | refine grow_drew ?_)))) (HQ.out.holes.below (by (repeat (first | exact grow_refl _ | refine grow_ext _ ?_ | refine grow_alloc _ ?_ | refine grow_drew ?_))))).mono ?_; rintro e w' ⟨rfl, x1, rfl⟩
      go_wp2
      go_ret
      exact ⟨_, rfl, ext_of (by (repeat (first | exact grow_refl _ | refine grow_ext _ ?_ | refine grow_alloc _ ?_ | refine grow_drew ?_)))⟩
    · have H := Lib.hid h
      clear h
      go_enter Tryz.func12, Tryz.ntmps12
      go_wp2_with fail
      go_at_call 47; refine (HS.out _ H.out _ (HQ.out.boxes.below (by (repeat (first | exact grow_refl _ | refine grow_ext _ ?_ | refine grow_alloc _ ?_ | refine grow_drew ?_)))) (HQ.out.holes.below (by (repeat (first | exact grow_refl _ | refine grow_ext _ ?_ | refine grow_alloc _ ?_ | refine grow_drew ?_))))).mono ?_; rintro e w' ⟨rfl, x1, rfl⟩
      go_wp2_with fail
      go_at_call 48; refine (H16.out _ (HL.out.below (by (repeat (first | exact grow_refl _ | refine grow_ext _ ?_ | refine grow_alloc _ ?_ | refine grow_drew ?_)))) (HR.out.below (by (repeat (first | exact grow_refl _ | refine grow_ext _ ?_ | refine grow_alloc _ ?_ | refine grow_drew ?_))))).mono ?_; rintro e w' ⟨q0, rfl, x2, rfl⟩
      go_wp2
      go_ret
      exact ⟨_, rfl, ext_of (by (repeat (first | exact grow_refl _ | refine grow_ext _ ?_ | refine grow_alloc _ ?_ | refine grow_drew ?_)))⟩
  · have d1 : decide ((q.name.size : Int) ≤ 60) = false := by simp; omega
    go_enter Tryz.func12, Tryz.ntmps12
    go_wp2
    go_ret
    exact ⟨_, rfl, ext_of (by (repeat (first | exact grow_refl _ | refine grow_ext _ ?_ | refine grow_alloc _ ?_ | refine grow_drew ?_)))⟩

set_option maxHeartbeats 2000000 in
theorem given22_v (q : Mb) (l : List Br) (rs : List Rn) (v u : Value) (r : Bool) (hv : laidB l rs = r) (hm : okMb q = true) (w : World) (hq : MbAt w q) (hl : Bars w v l) (hr : Runs w u rs) :
    Calls Tryz.prog 19 #[(.agg #[.string q.name, q.u, q.t, .int .i64 q.cover, .int .i64 q.agg, .int .i64 q.poker]), v, u] w (Ret w (.int .i64 (if r then 0 else 1))) := by
  have HQ := Lib.hid hq
  have HL := Lib.hid hl
  have HR := Lib.hid hr
  have HM := Lib.hid (fun w hl hm' => refMember_v q.name q.l q.m q.u q.t q.cover q.agg q.poker true hm hq.name w hl hm')
  have HV := Lib.hid hv
  clear hq hl hr hm hv
  cases r
  all_goals
    simp only [Bool.false_eq_true, if_false, if_true]
    go_enter Tryz.func19, Tryz.ntmps19
    go_wp2_with fail
    go_at_call 15; refine (HM.out _ (HQ.out.boxes.below (by (repeat (first | exact grow_refl _ | refine grow_ext _ ?_ | refine grow_alloc _ ?_ | refine grow_drew ?_)))) (HQ.out.holes.below (by (repeat (first | exact grow_refl _ | refine grow_ext _ ?_ | refine grow_alloc _ ?_ | refine grow_drew ?_))))).mono ?_; rintro e w' ⟨rfl, x1, rfl⟩
    go_wp2_with fail
    go_at_call 59; refine (refLaid_v l rs v u _ HV.out _ (HL.out.below (by (repeat (first | exact grow_refl _ | refine grow_ext _ ?_ | refine grow_alloc _ ?_ | refine grow_drew ?_)))) (HR.out.below (by (repeat (first | exact grow_refl _ | refine grow_ext _ ?_ | refine grow_alloc _ ?_ | refine grow_drew ?_))))).mono ?_; rintro e w' ⟨rfl, x2, rfl⟩
    go_wp2
    go_ret
    exact Ret.of (by (repeat (first | exact grow_refl _ | refine grow_ext _ ?_ | refine grow_alloc _ ?_ | refine grow_drew ?_)))

set_option maxRecDepth 100000 in
set_option maxHeartbeats 8000000 in
theorem lawPF_a (q : Mb) (l : List Br) (rs : List Rn) (v u : Value) (p : Pt) (hm : okMb q = false) (w : World) (hq : MbAt w q) (hl : Bars w v l) (hr : Runs w u rs) :
    Calls Tryz.prog 3 #[(.agg #[.string q.name, q.u, q.t, .int .i64 q.cover, .int .i64 q.agg, .int .i64 q.poker]), v, u, (.agg #[.int .i64 p.x, .int .i64 p.y, .int .i64 p.z])] w (Ret w (.bool true)) := by
  have HQ := Lib.hid hq
  have HL := Lib.hid hl
  have HR := Lib.hid hr
  have HM := Lib.hid (fun w hl hm' => refMember_v q.name q.l q.m q.u q.t q.cover q.agg q.poker false hm hq.name w hl hm')
  have HC := Lib.hid (fun w hq => pColumn_v q p zeroX 1 (by unfold columnE; rw [if_neg (by rw [hm]; decide)]) w hq)
  have HF := Lib.hid (fun w hq hl hr => pFree_v q l rs p v u false 1 (by unfold freeE; rw [if_neg (fun h => by rw [hm] at h; cases h.1)]) w hq hl hr)
  simp only [zeroX] at HC
  clear hq hl hr hm
  go_enter Tryz.func3, Tryz.ntmps3
  go_wp2_with fail
  go_at_call 11; refine (awake22_c _).mono ?_; rintro e w' ⟨rfl, x0, rfl⟩
  go_wp2_with fail
  go_at_call 12; refine (few22_c q l rs v u _ (HQ.out.below (by (repeat (first | exact grow_refl _ | refine grow_ext _ ?_ | refine grow_alloc _ ?_ | refine grow_drew ?_)))) (HL.out.below (by (repeat (first | exact grow_refl _ | refine grow_ext _ ?_ | refine grow_alloc _ ?_ | refine grow_drew ?_)))) (HR.out.below (by (repeat (first | exact grow_refl _ | refine grow_ext _ ?_ | refine grow_alloc _ ?_ | refine grow_drew ?_))))).mono ?_; rintro e w' ⟨q0, rfl, x1, rfl⟩
  cases q0
  · go_wp2
    go_ret
    exact Ret.of (by (repeat (first | exact grow_refl _ | refine grow_ext _ ?_ | refine grow_alloc _ ?_ | refine grow_drew ?_)))
  go_wp2_with fail
  go_at_call 13; refine (HC.out _ (HQ.out.below (by (repeat (first | exact grow_refl _ | refine grow_ext _ ?_ | refine grow_alloc _ ?_ | refine grow_drew ?_))))).mono ?_; rintro e w' ⟨rfl, x2, rfl⟩
  go_wp2_with fail
  go_at_call 14; refine (HF.out _ (HQ.out.below (by (repeat (first | exact grow_refl _ | refine grow_ext _ ?_ | refine grow_alloc _ ?_ | refine grow_drew ?_)))) (HL.out.below (by (repeat (first | exact grow_refl _ | refine grow_ext _ ?_ | refine grow_alloc _ ?_ | refine grow_drew ?_)))) (HR.out.below (by (repeat (first | exact grow_refl _ | refine grow_ext _ ?_ | refine grow_alloc _ ?_ | refine grow_drew ?_))))).mono ?_; rintro e w' ⟨rfl, x3, rfl⟩
  go_wp2_with fail
  go_at_call 15; refine (HM.out _ (HQ.out.boxes.below (by (repeat (first | exact grow_refl _ | refine grow_ext _ ?_ | refine grow_alloc _ ?_ | refine grow_drew ?_)))) (HQ.out.holes.below (by (repeat (first | exact grow_refl _ | refine grow_ext _ ?_ | refine grow_alloc _ ?_ | refine grow_drew ?_))))).mono ?_; rintro e w' ⟨rfl, x4, rfl⟩
  go_wp2
  go_ret
  exact Ret.of (by (repeat (first | exact grow_refl _ | refine grow_ext _ ?_ | refine grow_alloc _ ?_ | refine grow_drew ?_)))

set_option maxRecDepth 100000 in
set_option maxHeartbeats 8000000 in
theorem lawPF_b (q : Mb) (l : List Br) (rs : List Rn) (v u : Value) (p : Pt) (hm : okMb q = true) (hn : nearB p 1048576 = false) (hv : laidB l rs = false) (w : World) (hq : MbAt w q) (hl : Bars w v l) (hr : Runs w u rs) :
    Calls Tryz.prog 3 #[(.agg #[.string q.name, q.u, q.t, .int .i64 q.cover, .int .i64 q.agg, .int .i64 q.poker]), v, u, (.agg #[.int .i64 p.x, .int .i64 p.y, .int .i64 p.z])] w (Ret w (.bool true)) := by
  have HQ := Lib.hid hq
  have HL := Lib.hid hl
  have HR := Lib.hid hr
  have HM := Lib.hid (fun w hl hm' => refMember_v q.name q.l q.m q.u q.t q.cover q.agg q.poker true hm hq.name w hl hm')
  have ht : tipB q p = false := by unfold tipB; rw [hn]; rfl
  have HC := Lib.hid (fun w hq => pColumn_v q p zeroX 2 (by unfold columnE; rw [if_pos hm, if_neg (by rw [ht]; decide)]) w hq)
  have HF := Lib.hid (fun w hq hl hr => pFree_v q l rs p v u false 1 (by unfold freeE; rw [if_neg (fun h => by rw [hv] at h; cases h.2)]) w hq hl hr)
  have HN := Lib.hid hn
  have HG := Lib.hid (fun w hq hl hr => given22_v q l rs v u false hv hm w hq hl hr)
  simp only [Bool.false_eq_true, if_false] at HG
  simp only [zeroX] at HC
  clear hq hl hr hm hn hv ht
  go_enter Tryz.func3, Tryz.ntmps3
  go_wp2_with fail
  go_at_call 11; refine (awake22_c _).mono ?_; rintro e w' ⟨rfl, x0, rfl⟩
  go_wp2_with fail
  go_at_call 12; refine (few22_c q l rs v u _ (HQ.out.below (by (repeat (first | exact grow_refl _ | refine grow_ext _ ?_ | refine grow_alloc _ ?_ | refine grow_drew ?_)))) (HL.out.below (by (repeat (first | exact grow_refl _ | refine grow_ext _ ?_ | refine grow_alloc _ ?_ | refine grow_drew ?_)))) (HR.out.below (by (repeat (first | exact grow_refl _ | refine grow_ext _ ?_ | refine grow_alloc _ ?_ | refine grow_drew ?_))))).mono ?_; rintro e w' ⟨q0, rfl, x1, rfl⟩
  cases q0
  · go_wp2
    go_ret
    exact Ret.of (by (repeat (first | exact grow_refl _ | refine grow_ext _ ?_ | refine grow_alloc _ ?_ | refine grow_drew ?_)))
  go_wp2_with fail
  go_at_call 13; refine (HC.out _ (HQ.out.below (by (repeat (first | exact grow_refl _ | refine grow_ext _ ?_ | refine grow_alloc _ ?_ | refine grow_drew ?_))))).mono ?_; rintro e w' ⟨rfl, x2, rfl⟩
  go_wp2_with fail
  go_at_call 14; refine (HF.out _ (HQ.out.below (by (repeat (first | exact grow_refl _ | refine grow_ext _ ?_ | refine grow_alloc _ ?_ | refine grow_drew ?_)))) (HL.out.below (by (repeat (first | exact grow_refl _ | refine grow_ext _ ?_ | refine grow_alloc _ ?_ | refine grow_drew ?_)))) (HR.out.below (by (repeat (first | exact grow_refl _ | refine grow_ext _ ?_ | refine grow_alloc _ ?_ | refine grow_drew ?_))))).mono ?_; rintro e w' ⟨rfl, x3, rfl⟩
  go_wp2_with fail
  go_at_call 15; refine (HM.out _ (HQ.out.boxes.below (by (repeat (first | exact grow_refl _ | refine grow_ext _ ?_ | refine grow_alloc _ ?_ | refine grow_drew ?_)))) (HQ.out.holes.below (by (repeat (first | exact grow_refl _ | refine grow_ext _ ?_ | refine grow_alloc _ ?_ | refine grow_drew ?_))))).mono ?_; rintro e w' ⟨rfl, x4, rfl⟩
  go_wp2_with fail
  refine wp_region_grows (by kernel_rfl) (by kernel_rfl) ?_
  repeat (go_big_quiet_step ((go_at_call 16; exact Calls.quiet_ext (rRight_v p _ HN.out _))))
  refine wpQuiet_nil ?_; rintro _ ⟨xq, rfl⟩
  go_wp2_with fail
  go_at_call 19; refine (HG.out _ (HQ.out.below (by (repeat (first | exact grow_refl _ | refine grow_ext _ ?_ | refine grow_alloc _ ?_ | refine grow_drew ?_)))) (HL.out.below (by (repeat (first | exact grow_refl _ | refine grow_ext _ ?_ | refine grow_alloc _ ?_ | refine grow_drew ?_)))) (HR.out.below (by (repeat (first | exact grow_refl _ | refine grow_ext _ ?_ | refine grow_alloc _ ?_ | refine grow_drew ?_))))).mono ?_; rintro e w' ⟨rfl, x6, rfl⟩
  go_wp2
  go_ret
  exact Ret.of (by (repeat (first | exact grow_refl _ | refine grow_ext _ ?_ | refine grow_alloc _ ?_ | refine grow_drew ?_)))

set_option maxRecDepth 100000 in
set_option maxHeartbeats 8000000 in
theorem lawPF_c (q : Mb) (l : List Br) (rs : List Rn) (v u : Value) (p : Pt) (hm : okMb q = true) (hn : nearB p 1048576 = false) (hv : laidB l rs = true) (w : World) (hq : MbAt w q) (hl : Bars w v l) (hr : Runs w u rs) :
    Calls Tryz.prog 3 #[(.agg #[.string q.name, q.u, q.t, .int .i64 q.cover, .int .i64 q.agg, .int .i64 q.poker]), v, u, (.agg #[.int .i64 p.x, .int .i64 p.y, .int .i64 p.z])] w (Ret w (.bool true)) := by
  have HQ := Lib.hid hq
  have HL := Lib.hid hl
  have HR := Lib.hid hr
  have HM := Lib.hid (fun w hl hm' => refMember_v q.name q.l q.m q.u q.t q.cover q.agg q.poker true hm hq.name w hl hm')
  have ht : tipB q p = false := by unfold tipB; rw [hn]; rfl
  have HC := Lib.hid (fun w hq => pColumn_v q p zeroX 2 (by unfold columnE; rw [if_pos hm, if_neg (by rw [ht]; decide)]) w hq)
  have HF := Lib.hid (fun w hq hl hr => pFree_v q l rs p v u false 2 (by unfold freeE; rw [if_pos ⟨hm, hv⟩, if_neg (by rw [ht]; decide)]) w hq hl hr)
  have HN := Lib.hid hn
  have HG := Lib.hid (fun w hq hl hr => given22_v q l rs v u true hv hm w hq hl hr)
  simp only [if_true] at HG
  simp only [zeroX] at HC
  clear hq hl hr hm hn hv ht
  go_enter Tryz.func3, Tryz.ntmps3
  go_wp2_with fail
  go_at_call 11; refine (awake22_c _).mono ?_; rintro e w' ⟨rfl, x0, rfl⟩
  go_wp2_with fail
  go_at_call 12; refine (few22_c q l rs v u _ (HQ.out.below (by (repeat (first | exact grow_refl _ | refine grow_ext _ ?_ | refine grow_alloc _ ?_ | refine grow_drew ?_)))) (HL.out.below (by (repeat (first | exact grow_refl _ | refine grow_ext _ ?_ | refine grow_alloc _ ?_ | refine grow_drew ?_)))) (HR.out.below (by (repeat (first | exact grow_refl _ | refine grow_ext _ ?_ | refine grow_alloc _ ?_ | refine grow_drew ?_))))).mono ?_; rintro e w' ⟨q0, rfl, x1, rfl⟩
  cases q0
  · go_wp2
    go_ret
    exact Ret.of (by (repeat (first | exact grow_refl _ | refine grow_ext _ ?_ | refine grow_alloc _ ?_ | refine grow_drew ?_)))
  go_wp2_with fail
  go_at_call 13; refine (HC.out _ (HQ.out.below (by (repeat (first | exact grow_refl _ | refine grow_ext _ ?_ | refine grow_alloc _ ?_ | refine grow_drew ?_))))).mono ?_; rintro e w' ⟨rfl, x2, rfl⟩
  go_wp2_with fail
  go_at_call 14; refine (HF.out _ (HQ.out.below (by (repeat (first | exact grow_refl _ | refine grow_ext _ ?_ | refine grow_alloc _ ?_ | refine grow_drew ?_)))) (HL.out.below (by (repeat (first | exact grow_refl _ | refine grow_ext _ ?_ | refine grow_alloc _ ?_ | refine grow_drew ?_)))) (HR.out.below (by (repeat (first | exact grow_refl _ | refine grow_ext _ ?_ | refine grow_alloc _ ?_ | refine grow_drew ?_))))).mono ?_; rintro e w' ⟨rfl, x3, rfl⟩
  go_wp2_with fail
  go_at_call 15; refine (HM.out _ (HQ.out.boxes.below (by (repeat (first | exact grow_refl _ | refine grow_ext _ ?_ | refine grow_alloc _ ?_ | refine grow_drew ?_)))) (HQ.out.holes.below (by (repeat (first | exact grow_refl _ | refine grow_ext _ ?_ | refine grow_alloc _ ?_ | refine grow_drew ?_))))).mono ?_; rintro e w' ⟨rfl, x4, rfl⟩
  go_wp2_with fail
  refine wp_region_grows (by kernel_rfl) (by kernel_rfl) ?_
  repeat (go_big_quiet_step ((go_at_call 16; exact Calls.quiet_ext (rRight_v p _ HN.out _))))
  refine wpQuiet_nil ?_; rintro _ ⟨xq, rfl⟩
  go_wp2_with fail
  go_at_call 19; refine (HG.out _ (HQ.out.below (by (repeat (first | exact grow_refl _ | refine grow_ext _ ?_ | refine grow_alloc _ ?_ | refine grow_drew ?_)))) (HL.out.below (by (repeat (first | exact grow_refl _ | refine grow_ext _ ?_ | refine grow_alloc _ ?_ | refine grow_drew ?_)))) (HR.out.below (by (repeat (first | exact grow_refl _ | refine grow_ext _ ?_ | refine grow_alloc _ ?_ | refine grow_drew ?_))))).mono ?_; rintro e w' ⟨rfl, x6, rfl⟩
  go_wp2
  go_ret
  exact Ret.of (by (repeat (first | exact grow_refl _ | refine grow_ext _ ?_ | refine grow_alloc _ ?_ | refine grow_drew ?_)))

set_option maxRecDepth 100000 in
set_option maxHeartbeats 8000000 in
theorem lawPF_d (q : Mb) (l : List Br) (rs : List Rn) (v u : Value) (p : Pt) (hm : okMb q = true) (hn : nearB p 1048576 = true) (hz : ¬ p.z ≤ topI q) (hv : laidB l rs = false) (w : World) (hq : MbAt w q) (hl : Bars w v l) (hr : Runs w u rs) :
    Calls Tryz.prog 3 #[(.agg #[.string q.name, q.u, q.t, .int .i64 q.cover, .int .i64 q.agg, .int .i64 q.poker]), v, u, (.agg #[.int .i64 p.x, .int .i64 p.y, .int .i64 p.z])] w (Ret w (.bool true)) := by
  have HQ := Lib.hid hq
  have HL := Lib.hid hl
  have HR := Lib.hid hr
  have HM := Lib.hid (fun w hl hm' => refMember_v q.name q.l q.m q.u q.t q.cover q.agg q.poker true hm hq.name w hl hm')
  have ht : tipB q p = false := by unfold tipB; rw [hn]; rw [decide_eq_false hz]; rfl
  have HC := Lib.hid (fun w hq => pColumn_v q p zeroX 2 (by unfold columnE; rw [if_pos hm, if_neg (by rw [ht]; decide)]) w hq)
  have HF := Lib.hid (fun w hq hl hr => pFree_v q l rs p v u false 1 (by unfold freeE; rw [if_neg (fun h => by rw [hv] at h; cases h.2)]) w hq hl hr)
  have HN := Lib.hid hn
  have HG := Lib.hid (fun w hq hl hr => given22_v q l rs v u false hv hm w hq hl hr)
  simp only [Bool.false_eq_true, if_false] at HG
  have HT := Lib.hid (fun w hq => rTop_c q (solid_some (okMb_facts hm).1) w hq)
  generalize topI q = T at *
  have d1 : decide (p.z ≤ T) = false := decide_eq_false hz
  simp only [zeroX] at HC
  clear hq hl hr hm hn hz hv ht
  go_enter Tryz.func3, Tryz.ntmps3
  go_wp2_with fail
  go_at_call 11; refine (awake22_c _).mono ?_; rintro e w' ⟨rfl, x0, rfl⟩
  go_wp2_with fail
  go_at_call 12; refine (few22_c q l rs v u _ (HQ.out.below (by (repeat (first | exact grow_refl _ | refine grow_ext _ ?_ | refine grow_alloc _ ?_ | refine grow_drew ?_)))) (HL.out.below (by (repeat (first | exact grow_refl _ | refine grow_ext _ ?_ | refine grow_alloc _ ?_ | refine grow_drew ?_)))) (HR.out.below (by (repeat (first | exact grow_refl _ | refine grow_ext _ ?_ | refine grow_alloc _ ?_ | refine grow_drew ?_))))).mono ?_; rintro e w' ⟨q0, rfl, x1, rfl⟩
  cases q0
  · go_wp2
    go_ret
    exact Ret.of (by (repeat (first | exact grow_refl _ | refine grow_ext _ ?_ | refine grow_alloc _ ?_ | refine grow_drew ?_)))
  go_wp2_with fail
  go_at_call 13; refine (HC.out _ (HQ.out.below (by (repeat (first | exact grow_refl _ | refine grow_ext _ ?_ | refine grow_alloc _ ?_ | refine grow_drew ?_))))).mono ?_; rintro e w' ⟨rfl, x2, rfl⟩
  go_wp2_with fail
  go_at_call 14; refine (HF.out _ (HQ.out.below (by (repeat (first | exact grow_refl _ | refine grow_ext _ ?_ | refine grow_alloc _ ?_ | refine grow_drew ?_)))) (HL.out.below (by (repeat (first | exact grow_refl _ | refine grow_ext _ ?_ | refine grow_alloc _ ?_ | refine grow_drew ?_)))) (HR.out.below (by (repeat (first | exact grow_refl _ | refine grow_ext _ ?_ | refine grow_alloc _ ?_ | refine grow_drew ?_))))).mono ?_; rintro e w' ⟨rfl, x3, rfl⟩
  go_wp2_with fail
  go_at_call 15; refine (HM.out _ (HQ.out.boxes.below (by (repeat (first | exact grow_refl _ | refine grow_ext _ ?_ | refine grow_alloc _ ?_ | refine grow_drew ?_)))) (HQ.out.holes.below (by (repeat (first | exact grow_refl _ | refine grow_ext _ ?_ | refine grow_alloc _ ?_ | refine grow_drew ?_))))).mono ?_; rintro e w' ⟨rfl, x4, rfl⟩
  go_wp2_with fail
  refine wp_region_grows (by kernel_rfl) (by kernel_rfl) ?_
  repeat (go_big_quiet_step ((first | (go_at_call 16; exact Calls.quiet_ext (rRight_v p _ HN.out _)) | (go_at_call 17; exact Calls.quiet_ext (HT.out _ (HQ.out.below (by (repeat (first | exact grow_refl _ | refine grow_ext _ ?_ | refine grow_alloc _ ?_ | refine grow_drew ?_)))))))))
  refine wpQuiet_nil ?_; rintro _ ⟨xq, rfl⟩
  go_wp2_with fail
  go_at_call 19; refine (HG.out _ (HQ.out.below (by (repeat (first | exact grow_refl _ | refine grow_ext _ ?_ | refine grow_alloc _ ?_ | refine grow_drew ?_)))) (HL.out.below (by (repeat (first | exact grow_refl _ | refine grow_ext _ ?_ | refine grow_alloc _ ?_ | refine grow_drew ?_)))) (HR.out.below (by (repeat (first | exact grow_refl _ | refine grow_ext _ ?_ | refine grow_alloc _ ?_ | refine grow_drew ?_))))).mono ?_; rintro e w' ⟨rfl, x6, rfl⟩
  go_wp2
  go_ret
  exact Ret.of (by (repeat (first | exact grow_refl _ | refine grow_ext _ ?_ | refine grow_alloc _ ?_ | refine grow_drew ?_)))

set_option maxRecDepth 100000 in
set_option maxHeartbeats 8000000 in
theorem lawPF_e (q : Mb) (l : List Br) (rs : List Rn) (v u : Value) (p : Pt) (hm : okMb q = true) (hn : nearB p 1048576 = true) (hz : ¬ p.z ≤ topI q) (hv : laidB l rs = true) (w : World) (hq : MbAt w q) (hl : Bars w v l) (hr : Runs w u rs) :
    Calls Tryz.prog 3 #[(.agg #[.string q.name, q.u, q.t, .int .i64 q.cover, .int .i64 q.agg, .int .i64 q.poker]), v, u, (.agg #[.int .i64 p.x, .int .i64 p.y, .int .i64 p.z])] w (Ret w (.bool true)) := by
  have HQ := Lib.hid hq
  have HL := Lib.hid hl
  have HR := Lib.hid hr
  have HM := Lib.hid (fun w hl hm' => refMember_v q.name q.l q.m q.u q.t q.cover q.agg q.poker true hm hq.name w hl hm')
  have ht : tipB q p = false := by unfold tipB; rw [hn]; rw [decide_eq_false hz]; rfl
  have HC := Lib.hid (fun w hq => pColumn_v q p zeroX 2 (by unfold columnE; rw [if_pos hm, if_neg (by rw [ht]; decide)]) w hq)
  have HF := Lib.hid (fun w hq hl hr => pFree_v q l rs p v u false 2 (by unfold freeE; rw [if_pos ⟨hm, hv⟩, if_neg (by rw [ht]; decide)]) w hq hl hr)
  have HN := Lib.hid hn
  have HG := Lib.hid (fun w hq hl hr => given22_v q l rs v u true hv hm w hq hl hr)
  simp only [if_true] at HG
  have HT := Lib.hid (fun w hq => rTop_c q (solid_some (okMb_facts hm).1) w hq)
  generalize topI q = T at *
  have d1 : decide (p.z ≤ T) = false := decide_eq_false hz
  simp only [zeroX] at HC
  clear hq hl hr hm hn hz hv ht
  go_enter Tryz.func3, Tryz.ntmps3
  go_wp2_with fail
  go_at_call 11; refine (awake22_c _).mono ?_; rintro e w' ⟨rfl, x0, rfl⟩
  go_wp2_with fail
  go_at_call 12; refine (few22_c q l rs v u _ (HQ.out.below (by (repeat (first | exact grow_refl _ | refine grow_ext _ ?_ | refine grow_alloc _ ?_ | refine grow_drew ?_)))) (HL.out.below (by (repeat (first | exact grow_refl _ | refine grow_ext _ ?_ | refine grow_alloc _ ?_ | refine grow_drew ?_)))) (HR.out.below (by (repeat (first | exact grow_refl _ | refine grow_ext _ ?_ | refine grow_alloc _ ?_ | refine grow_drew ?_))))).mono ?_; rintro e w' ⟨q0, rfl, x1, rfl⟩
  cases q0
  · go_wp2
    go_ret
    exact Ret.of (by (repeat (first | exact grow_refl _ | refine grow_ext _ ?_ | refine grow_alloc _ ?_ | refine grow_drew ?_)))
  go_wp2_with fail
  go_at_call 13; refine (HC.out _ (HQ.out.below (by (repeat (first | exact grow_refl _ | refine grow_ext _ ?_ | refine grow_alloc _ ?_ | refine grow_drew ?_))))).mono ?_; rintro e w' ⟨rfl, x2, rfl⟩
  go_wp2_with fail
  go_at_call 14; refine (HF.out _ (HQ.out.below (by (repeat (first | exact grow_refl _ | refine grow_ext _ ?_ | refine grow_alloc _ ?_ | refine grow_drew ?_)))) (HL.out.below (by (repeat (first | exact grow_refl _ | refine grow_ext _ ?_ | refine grow_alloc _ ?_ | refine grow_drew ?_)))) (HR.out.below (by (repeat (first | exact grow_refl _ | refine grow_ext _ ?_ | refine grow_alloc _ ?_ | refine grow_drew ?_))))).mono ?_; rintro e w' ⟨rfl, x3, rfl⟩
  go_wp2_with fail
  go_at_call 15; refine (HM.out _ (HQ.out.boxes.below (by (repeat (first | exact grow_refl _ | refine grow_ext _ ?_ | refine grow_alloc _ ?_ | refine grow_drew ?_)))) (HQ.out.holes.below (by (repeat (first | exact grow_refl _ | refine grow_ext _ ?_ | refine grow_alloc _ ?_ | refine grow_drew ?_))))).mono ?_; rintro e w' ⟨rfl, x4, rfl⟩
  go_wp2_with fail
  refine wp_region_grows (by kernel_rfl) (by kernel_rfl) ?_
  repeat (go_big_quiet_step ((first | (go_at_call 16; exact Calls.quiet_ext (rRight_v p _ HN.out _)) | (go_at_call 17; exact Calls.quiet_ext (HT.out _ (HQ.out.below (by (repeat (first | exact grow_refl _ | refine grow_ext _ ?_ | refine grow_alloc _ ?_ | refine grow_drew ?_)))))))))
  refine wpQuiet_nil ?_; rintro _ ⟨xq, rfl⟩
  go_wp2_with fail
  go_at_call 19; refine (HG.out _ (HQ.out.below (by (repeat (first | exact grow_refl _ | refine grow_ext _ ?_ | refine grow_alloc _ ?_ | refine grow_drew ?_)))) (HL.out.below (by (repeat (first | exact grow_refl _ | refine grow_ext _ ?_ | refine grow_alloc _ ?_ | refine grow_drew ?_)))) (HR.out.below (by (repeat (first | exact grow_refl _ | refine grow_ext _ ?_ | refine grow_alloc _ ?_ | refine grow_drew ?_))))).mono ?_; rintro e w' ⟨rfl, x6, rfl⟩
  go_wp2
  go_ret
  exact Ret.of (by (repeat (first | exact grow_refl _ | refine grow_ext _ ?_ | refine grow_alloc _ ?_ | refine grow_drew ?_)))

set_option maxRecDepth 100000 in
set_option maxHeartbeats 8000000 in
theorem lawPF_f (q : Mb) (l : List Br) (rs : List Rn) (v u : Value) (p : Pt) (hm : okMb q = true) (hn : nearB p 1048576 = true) (hz : p.z ≤ topI q) (hv : laidB l rs = false) (w : World) (hq : MbAt w q) (hl : Bars w v l) (hr : Runs w u rs) :
    Calls Tryz.prog 3 #[(.agg #[.string q.name, q.u, q.t, .int .i64 q.cover, .int .i64 q.agg, .int .i64 q.poker]), v, u, (.agg #[.int .i64 p.x, .int .i64 p.y, .int .i64 p.z])] w (Ret w (.bool true)) := by
  have HQ := Lib.hid hq
  have HL := Lib.hid hl
  have HR := Lib.hid hr
  have HM := Lib.hid (fun w hl hm' => refMember_v q.name q.l q.m q.u q.t q.cover q.agg q.poker true hm hq.name w hl hm')
  have ht : tipB q p = true := by unfold tipB; rw [hn]; rw [decide_eq_true hz]; rfl
  have HC := Lib.hid (fun w hq => pColumn_v q p (colX q p) 0 (by unfold columnE; rw [if_pos hm, if_pos ht]) w hq)
  have HF := Lib.hid (fun w hq hl hr => pFree_v q l rs p v u false 1 (by unfold freeE; rw [if_neg (fun h => by rw [hv] at h; cases h.2)]) w hq hl hr)
  have HN := Lib.hid hn
  have HG := Lib.hid (fun w hq hl hr => given22_v q l rs v u false hv hm w hq hl hr)
  simp only [Bool.false_eq_true, if_false] at HG
  have HT := Lib.hid (fun w hq => rTop_c q (solid_some (okMb_facts hm).1) w hq)
  have HRC := Lib.hid (fun w hq => rColumn_c q p (tip_ok hm hn) w hq)
  generalize colX q p = C at *
  generalize topI q = T at *
  have d1 : decide (p.z ≤ T) = true := decide_eq_true hz
  clear hq hl hr hm hn hz hv ht
  go_enter Tryz.func3, Tryz.ntmps3
  go_wp2_with fail
  go_at_call 11; refine (awake22_c _).mono ?_; rintro e w' ⟨rfl, x0, rfl⟩
  go_wp2_with fail
  go_at_call 12; refine (few22_c q l rs v u _ (HQ.out.below (by (repeat (first | exact grow_refl _ | refine grow_ext _ ?_ | refine grow_alloc _ ?_ | refine grow_drew ?_)))) (HL.out.below (by (repeat (first | exact grow_refl _ | refine grow_ext _ ?_ | refine grow_alloc _ ?_ | refine grow_drew ?_)))) (HR.out.below (by (repeat (first | exact grow_refl _ | refine grow_ext _ ?_ | refine grow_alloc _ ?_ | refine grow_drew ?_))))).mono ?_; rintro e w' ⟨q0, rfl, x1, rfl⟩
  cases q0
  · go_wp2
    go_ret
    exact Ret.of (by (repeat (first | exact grow_refl _ | refine grow_ext _ ?_ | refine grow_alloc _ ?_ | refine grow_drew ?_)))
  go_wp2_with fail
  go_at_call 13; refine (HC.out _ (HQ.out.below (by (repeat (first | exact grow_refl _ | refine grow_ext _ ?_ | refine grow_alloc _ ?_ | refine grow_drew ?_))))).mono ?_; rintro e w' ⟨rfl, x2, rfl⟩
  go_wp2_with fail
  go_at_call 14; refine (HF.out _ (HQ.out.below (by (repeat (first | exact grow_refl _ | refine grow_ext _ ?_ | refine grow_alloc _ ?_ | refine grow_drew ?_)))) (HL.out.below (by (repeat (first | exact grow_refl _ | refine grow_ext _ ?_ | refine grow_alloc _ ?_ | refine grow_drew ?_)))) (HR.out.below (by (repeat (first | exact grow_refl _ | refine grow_ext _ ?_ | refine grow_alloc _ ?_ | refine grow_drew ?_))))).mono ?_; rintro e w' ⟨rfl, x3, rfl⟩
  go_wp2_with fail
  go_at_call 15; refine (HM.out _ (HQ.out.boxes.below (by (repeat (first | exact grow_refl _ | refine grow_ext _ ?_ | refine grow_alloc _ ?_ | refine grow_drew ?_)))) (HQ.out.holes.below (by (repeat (first | exact grow_refl _ | refine grow_ext _ ?_ | refine grow_alloc _ ?_ | refine grow_drew ?_))))).mono ?_; rintro e w' ⟨rfl, x4, rfl⟩
  go_wp2_with fail
  refine wp_region_grows (by kernel_rfl) (by kernel_rfl) ?_
  repeat (go_big_quiet_step ((first | (go_at_call 16; exact Calls.quiet_ext (rRight_v p _ HN.out _)) | (go_at_call 17; exact Calls.quiet_ext (HT.out _ (HQ.out.below (by (repeat (first | exact grow_refl _ | refine grow_ext _ ?_ | refine grow_alloc _ ?_ | refine grow_drew ?_)))))))))
  refine wpQuiet_nil ?_; rintro _ ⟨xq, rfl⟩
  go_wp2_with fail
  refine wp_region_grows (by kernel_rfl) (by kernel_rfl) ?_
  repeat (go_big_quiet_step ((go_at_call 18; exact Calls.quiet_ext (HRC.out _ (HQ.out.below (by (repeat (first | exact grow_refl _ | refine grow_ext _ ?_ | refine grow_alloc _ ?_ | refine grow_drew ?_))))))))
  refine wpQuiet_nil ?_; rintro _ ⟨xq, rfl⟩
  go_wp2_with fail
  go_at_call 19; refine (HG.out _ (HQ.out.below (by (repeat (first | exact grow_refl _ | refine grow_ext _ ?_ | refine grow_alloc _ ?_ | refine grow_drew ?_)))) (HL.out.below (by (repeat (first | exact grow_refl _ | refine grow_ext _ ?_ | refine grow_alloc _ ?_ | refine grow_drew ?_)))) (HR.out.below (by (repeat (first | exact grow_refl _ | refine grow_ext _ ?_ | refine grow_alloc _ ?_ | refine grow_drew ?_))))).mono ?_; rintro e w' ⟨rfl, x6, rfl⟩
  go_wp2
  go_ret
  exact Ret.of (by (repeat (first | exact grow_refl _ | refine grow_ext _ ?_ | refine grow_alloc _ ?_ | refine grow_drew ?_)))

set_option maxRecDepth 100000 in
set_option maxHeartbeats 8000000 in
theorem lawPF_g (q : Mb) (l : List Br) (rs : List Rn) (v u : Value) (p : Pt) (hm : okMb q = true) (hn : nearB p 1048576 = true) (hz : p.z ≤ topI q) (hv : laidB l rs = true) (w : World) (hq : MbAt w q) (hl : Bars w v l) (hr : Runs w u rs) :
    Calls Tryz.prog 3 #[(.agg #[.string q.name, q.u, q.t, .int .i64 q.cover, .int .i64 q.agg, .int .i64 q.poker]), v, u, (.agg #[.int .i64 p.x, .int .i64 p.y, .int .i64 p.z])] w (Ret w (.bool true)) := by
  have HQ := Lib.hid hq
  have HL := Lib.hid hl
  have HR := Lib.hid hr
  have HM := Lib.hid (fun w hl hm' => refMember_v q.name q.l q.m q.u q.t q.cover q.agg q.poker true hm hq.name w hl hm')
  have ht : tipB q p = true := by unfold tipB; rw [hn]; rw [decide_eq_true hz]; rfl
  have HC := Lib.hid (fun w hq => pColumn_v q p (colX q p) 0 (by unfold columnE; rw [if_pos hm, if_pos ht]) w hq)
  have HF := Lib.hid (fun w hq hl hr => pFree_v q l rs p v u (freeR q (rodsI l rs) p) 0 (by unfold freeE; rw [if_pos ⟨hm, hv⟩, if_pos ht]) w hq hl hr)
  have HN := Lib.hid hn
  have HG := Lib.hid (fun w hq hl hr => given22_v q l rs v u true hv hm w hq hl hr)
  simp only [if_true] at HG
  have HT := Lib.hid (fun w hq => rTop_c q (solid_some (okMb_facts hm).1) w hq)
  have HRC := Lib.hid (fun w hq => rColumn_c q p (tip_ok hm hn) w hq)
  have HRF := Lib.hid (fun w hq hl hr => rFree_v q l rs v u p _ rfl (tip_ok hm hn) hv w hq hl hr)
  generalize freeR q (rodsI l rs) p = F at *
  generalize colX q p = C at *
  generalize topI q = T at *
  have d1 : decide (p.z ≤ T) = true := decide_eq_true hz
  clear hq hl hr hm hn hz hv ht
  go_enter Tryz.func3, Tryz.ntmps3
  go_wp2_with fail
  go_at_call 11; refine (awake22_c _).mono ?_; rintro e w' ⟨rfl, x0, rfl⟩
  go_wp2_with fail
  go_at_call 12; refine (few22_c q l rs v u _ (HQ.out.below (by (repeat (first | exact grow_refl _ | refine grow_ext _ ?_ | refine grow_alloc _ ?_ | refine grow_drew ?_)))) (HL.out.below (by (repeat (first | exact grow_refl _ | refine grow_ext _ ?_ | refine grow_alloc _ ?_ | refine grow_drew ?_)))) (HR.out.below (by (repeat (first | exact grow_refl _ | refine grow_ext _ ?_ | refine grow_alloc _ ?_ | refine grow_drew ?_))))).mono ?_; rintro e w' ⟨q0, rfl, x1, rfl⟩
  cases q0
  · go_wp2
    go_ret
    exact Ret.of (by (repeat (first | exact grow_refl _ | refine grow_ext _ ?_ | refine grow_alloc _ ?_ | refine grow_drew ?_)))
  go_wp2_with fail
  go_at_call 13; refine (HC.out _ (HQ.out.below (by (repeat (first | exact grow_refl _ | refine grow_ext _ ?_ | refine grow_alloc _ ?_ | refine grow_drew ?_))))).mono ?_; rintro e w' ⟨rfl, x2, rfl⟩
  go_wp2_with fail
  go_at_call 14; refine (HF.out _ (HQ.out.below (by (repeat (first | exact grow_refl _ | refine grow_ext _ ?_ | refine grow_alloc _ ?_ | refine grow_drew ?_)))) (HL.out.below (by (repeat (first | exact grow_refl _ | refine grow_ext _ ?_ | refine grow_alloc _ ?_ | refine grow_drew ?_)))) (HR.out.below (by (repeat (first | exact grow_refl _ | refine grow_ext _ ?_ | refine grow_alloc _ ?_ | refine grow_drew ?_))))).mono ?_; rintro e w' ⟨rfl, x3, rfl⟩
  go_wp2_with fail
  go_at_call 15; refine (HM.out _ (HQ.out.boxes.below (by (repeat (first | exact grow_refl _ | refine grow_ext _ ?_ | refine grow_alloc _ ?_ | refine grow_drew ?_)))) (HQ.out.holes.below (by (repeat (first | exact grow_refl _ | refine grow_ext _ ?_ | refine grow_alloc _ ?_ | refine grow_drew ?_))))).mono ?_; rintro e w' ⟨rfl, x4, rfl⟩
  go_wp2_with fail
  refine wp_region_grows (by kernel_rfl) (by kernel_rfl) ?_
  repeat (go_big_quiet_step ((first | (go_at_call 16; exact Calls.quiet_ext (rRight_v p _ HN.out _)) | (go_at_call 17; exact Calls.quiet_ext (HT.out _ (HQ.out.below (by (repeat (first | exact grow_refl _ | refine grow_ext _ ?_ | refine grow_alloc _ ?_ | refine grow_drew ?_)))))))))
  refine wpQuiet_nil ?_; rintro _ ⟨xq, rfl⟩
  go_wp2_with fail
  refine wp_region_grows (by kernel_rfl) (by kernel_rfl) ?_
  repeat (go_big_quiet_step ((go_at_call 18; exact Calls.quiet_ext (HRC.out _ (HQ.out.below (by (repeat (first | exact grow_refl _ | refine grow_ext _ ?_ | refine grow_alloc _ ?_ | refine grow_drew ?_))))))))
  refine wpQuiet_nil ?_; rintro _ ⟨xq, rfl⟩
  go_wp2_with fail
  go_at_call 19; refine (HG.out _ (HQ.out.below (by (repeat (first | exact grow_refl _ | refine grow_ext _ ?_ | refine grow_alloc _ ?_ | refine grow_drew ?_)))) (HL.out.below (by (repeat (first | exact grow_refl _ | refine grow_ext _ ?_ | refine grow_alloc _ ?_ | refine grow_drew ?_)))) (HR.out.below (by (repeat (first | exact grow_refl _ | refine grow_ext _ ?_ | refine grow_alloc _ ?_ | refine grow_drew ?_))))).mono ?_; rintro e w' ⟨rfl, x6, rfl⟩
  go_wp2_with fail
  go_at_call 20; refine (HRF.out _ (HQ.out.below (by (repeat (first | exact grow_refl _ | refine grow_ext _ ?_ | refine grow_alloc _ ?_ | refine grow_drew ?_)))) (HL.out.below (by (repeat (first | exact grow_refl _ | refine grow_ext _ ?_ | refine grow_alloc _ ?_ | refine grow_drew ?_)))) (HR.out.below (by (repeat (first | exact grow_refl _ | refine grow_ext _ ?_ | refine grow_alloc _ ?_ | refine grow_drew ?_))))).mono ?_; rintro e w' ⟨rfl, x7, rfl⟩
  go_wp2
  go_ret
  exact Ret.of (by (repeat (first | exact grow_refl _ | refine grow_ext _ ?_ | refine grow_alloc _ ?_ | refine grow_drew ?_)))

theorem lawPokerFree_c (q : Mb) (l : List Br) (v : Value) (rs : List Rn) (u : Value) (x y z : Int) (w : World) (hq : MbAt w q) (hl : Bars w v l) (hr : Runs w u rs) :
    Calls Tryz.prog 3 #[(.agg #[.string q.name, q.u, q.t, .int .i64 q.cover, .int .i64 q.agg, .int .i64 q.poker]), v, u, (.agg #[.int .i64 x, .int .i64 y, .int .i64 z])] w (Ret w (.bool true)) := by
  cases hm : okMb q
  · exact lawPF_a q l rs v u ⟨x, y, z⟩ hm w hq hl hr
  cases hn : nearB ⟨x, y, z⟩ 1048576
  · cases hv : laidB l rs
    · exact lawPF_b q l rs v u ⟨x, y, z⟩ hm hn hv w hq hl hr
    · exact lawPF_c q l rs v u ⟨x, y, z⟩ hm hn hv w hq hl hr
  by_cases hz : z ≤ topI q
  · cases hv : laidB l rs
    · exact lawPF_f q l rs v u ⟨x, y, z⟩ hm hn hz hv w hq hl hr
    · exact lawPF_g q l rs v u ⟨x, y, z⟩ hm hn hz hv w hq hl hr
  · cases hv : laidB l rs
    · exact lawPF_d q l rs v u ⟨x, y, z⟩ hm hn hz hv w hq hl hr
    · exact lawPF_e q l rs v u ⟨x, y, z⟩ hm hn hz hv w hq hl hr

end Go.Proofs.YtmoechhfjmemaaaGreat


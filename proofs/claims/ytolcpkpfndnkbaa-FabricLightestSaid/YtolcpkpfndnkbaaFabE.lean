/- The reference's Range, Count, Row; given, Given, Sheets, Counted, Mass. -/
import Derived.Test.YtolcpkpfndnkbaaFabD
import Derived.Test.YtolcpkpfndnkbaaAwake0
namespace Go.Proofs.Ytolcpkpfndnkbaa
open Go.RowKit

set_option maxHeartbeats 1000000 in
theorem refRange_v (t s l : Int) (r : Bool) (h : rangeB t s l = r) (w : World) : Calls Try.prog 13 #[.int .i64 t, .int .i64 s, .int .i64 l] w (Ret w (.bool r)) := by
  subst h
  cases h1 : inI t 1 1048576
  · have HR := Lib.hid (show rangeB t s l = false by unfold rangeB; rw [h1]; rfl)
    rcases inI_false h1 with h | h
    all_goals
      clear h1
      go_enter Try.func13, Try.ntmps13
      go_wp2
      all_goals
        go_ret
        rw [HR.out]
        exact Ret.bool (by simp <;> omega) (by (repeat (first | exact grow_refl _ | refine grow_ext _ ?_ | refine grow_alloc _ ?_ | refine grow_drew ?_)))
  obtain ⟨t1, t2⟩ := inI_iff.1 h1
  cases h2 : inI s 1 20000
  · have HR := Lib.hid (show rangeB t s l = false by unfold rangeB; rw [h1, h2]; rfl)
    clear h1
    go_enter Try.func13, Try.ntmps13
    go_wp2_with fail
    go_at_call 41; refine (refSheet_v _ _ h2 _).mono ?_; rintro e w' ⟨rfl, x, rfl⟩
    go_wp2
    all_goals
      go_ret
      rw [HR.out]
      exact Ret.bool (by simp <;> omega) (by (repeat (first | exact grow_refl _ | refine grow_ext _ ?_ | refine grow_alloc _ ?_ | refine grow_drew ?_)))
  obtain ⟨s1, s2⟩ := inI_iff.1 h2
  cases h3 : inI l 0 (s - 1)
  · have HR := Lib.hid (show rangeB t s l = false by unfold rangeB; rw [h1, h2, h3]; rfl)
    rcases inI_false h3 with h | h
    all_goals
      clear h1 h3
      go_enter Try.func13, Try.ntmps13
      go_wp2_with fail
      go_at_call 41; refine (refSheet_v _ _ h2 _).mono ?_; rintro e w' ⟨rfl, x, rfl⟩
      go_wp2
      all_goals
        go_ret
        rw [HR.out]
        exact Ret.bool (by simp <;> omega) (by (repeat (first | exact grow_refl _ | refine grow_ext _ ?_ | refine grow_alloc _ ?_ | refine grow_drew ?_)))
  obtain ⟨l1, l2⟩ := inI_iff.1 h3
  have HR := Lib.hid (show rangeB t s l = true by unfold rangeB; rw [h1, h2, h3]; rfl)
  clear h1 h3
  go_enter Try.func13, Try.ntmps13
  go_wp2_with fail
  go_at_call 41; refine (refSheet_v _ _ h2 _).mono ?_; rintro e w' ⟨rfl, x, rfl⟩
  go_wp2
  all_goals
    go_ret
    rw [HR.out]
    exact Ret.bool (by simp <;> omega) (by (repeat (first | exact grow_refl _ | refine grow_ext _ ?_ | refine grow_alloc _ ?_ | refine grow_drew ?_)))

set_option maxHeartbeats 400000 in
theorem refCount_c (t s l : Int) (h : rangeB t s l = true) (w : World) : Calls Try.prog 14 #[.int .i64 t, .int .i64 s, .int .i64 l] w (Ret w (.int .i64 (numI t s l))) := by
  obtain ⟨h1, h2, h3⟩ := range_iff.1 h
  have HR := Lib.hid h
  clear h
  by_cases hs : t ≤ s
  · have HN := Lib.hid (show numI t s l = 1 by unfold numI; rw [if_pos hs])
    go_enter Try.func14, Try.ntmps14
    go_wp2
    go_ret
    rw [HN.out]
    exact Ret.of (by (repeat (first | exact grow_refl _ | refine grow_ext _ ?_ | refine grow_alloc _ ?_ | refine grow_drew ?_)))
  · have hs' : s < t := by omega
    have hq : 0 ≤ t - s + (s - l) - 1 := by omega
    have hb : 1 ≤ s - l := by omega
    have HN := Lib.hid (show numI t s l = 1 + (t - s + (s - l) - 1) / (s - l) by unfold numI; rw [if_neg hs])
    have hd : (t - s + s - l - 1).tdiv (s - l) = (t - s + (s - l) - 1) / (s - l) := by
      rw [show t - s + s - l - 1 = t - s + (s - l) - 1 by omega]; exact Int.tdiv_eq_ediv_of_nonneg hq
    have hnb := (num_bound HR.out).2
    rw [HN.out] at hnb
    have hnb0 := (num_bound HR.out).1
    rw [HN.out] at hnb0
    have hz : ((s - l) == 0) = false := beq_eq_false_iff_ne.2 (by omega)
    generalize hqq : (t - s + (s - l) - 1) / (s - l) = q at HN hd hnb hnb0
    clear hqq hs
    have hd' : (t - l - 1) / (s - l) = q := by rw [← hd, show t - s + s - l - 1 = t - l - 1 by omega, Int.tdiv_eq_ediv_of_nonneg (by omega)]
    go_enter Try.func14, Try.ntmps14
    go_wp2
    go_ret
    rw [HN.out]
    exact Ret.of (by (repeat (first | exact grow_refl _ | refine grow_ext _ ?_ | refine grow_alloc _ ?_ | refine grow_drew ?_)))

set_option maxHeartbeats 1000000 in
theorem refRow_c (t s l : Int) (h : rangeB t s l = true) (w : World) :
    Calls Try.prog 16 #[.int .i64 t, .int .i64 s, .int .i64 l] w (RetOwn w 31 2 (rowL t s l).length (pairCells (rowL t s l))) := by
  obtain ⟨h1, h2, h3⟩ := range_iff.1 h
  have hnb := num_bound h
  have HR := Lib.hid h
  clear h
  have HL := Lib.hid (show rowL t s l = rowTo t s l (numI t s l).toNat from rfl)
  have HNC := Lib.hid (fun w => refCount_c t s l HR.out w)
  generalize numI t s l = n at hnb HL HNC
  go_enter Try.func16, Try.ntmps16
  go_wp2_with fail
  go_loopw [9, 8, 7] (fun i p v7 wr => ∃ k : Nat, (k : Int) ≤ n ∧ i = .int .i64 k ∧ p = .int .i64 ((k : Int) * (s - l)) ∧ (∃ x, wr = ext w x) ∧ wr.ownsRow w.heap.size 31 2 v7 (rowTo t s l k).length (pairCells (rowTo t s l k))) (fun i _ _ _ => n.toNat - (intOf i).toNat)
  case atStart => exact ⟨0, by omega, rfl, by simp, ext_of (by (repeat (first | exact grow_refl _ | refine grow_ext _ ?_ | refine grow_alloc _ ?_ | refine grow_drew ?_))), by simpa [rowTo, pairCells] using World.ownsRow_nil _ _ _ _⟩
  case round =>
    obtain ⟨k, hk, rfl, rfl, ⟨x, rfl⟩, hO⟩ := hrel
    have hm := mul_step (k := k) (d := s - l) (by omega) (by omega) (by omega)
    by_cases hlt : (k : Int) < n
    · have hlen := rowTo_length t s l k
      have hrs := rowTo_succ t s l k
      rw [Int.min_comm] at hrs
      have HRS := Lib.hid hrs
      have HLEN := Lib.hid hlen
      have HM := Lib.hid (show (k : Int) * (s - l) + s - l = ((k + 1 : Nat) : Int) * (s - l) by rw [Int.natCast_add, Int.add_mul]; simp; omega)
      clear hlen hrs
      generalize (k : Int) * (s - l) = p at hm HRS HM
      go_wp2_with fail
      go_at_call 14; refine (HNC.out _).mono ?_; rintro e w' ⟨rfl, x0, rfl⟩
      have hO2 := own_ext hO x0
      go_wp2_with (at_builtin; refine app_own rfl _ _ 23 rfl 31 (.agg #[.int .i64 0, .int .i64 0]) 2 16 Try.underlying23 info_span rfl (by decide) w _ _ _ _ rfl (hO2.alloc _) _ 1 1 [.int .i64 p, .int .i64 (min t (p + s))] rfl rfl (cells_new ?_ _ _ _ rfl) (by simp [Value.oneCell']) ?_ (by decide) ?_ ?_; (simp [size_ext]); (rw [HLEN.out]; omega); (repeat (first | exact grow_refl _ | refine grow_ext _ ?_ | refine grow_alloc _ ?_ | refine grow_drew ?_)); intro v' x' hown3 hgrow)
      go_roundw
      case rel => exact ⟨k + 1, by omega, by go_num, by rw [HM.out], ⟨_, rfl⟩, by rw [HRS.out, pairCells_append, List.length_append]; exact hown3⟩
      case measure => simp [intOf]; omega
    · obtain rfl : n = k := by omega
      have HO := Lib.hid hO
      clear hO
      go_wp2_with fail
      go_at_call 14; refine (HNC.out _).mono ?_; rintro e w' ⟨rfl, x0, rfl⟩
      go_wp2
      go_ret
      rw [HL.out]
      exact ⟨_, rfl, by simpa using own_ext HO.out x0, ext_of (by (repeat (first | exact grow_refl _ | refine grow_ext _ ?_ | refine grow_alloc _ ?_ | refine grow_drew ?_)))⟩

theorem fabCells_own {w : World} (f : Fb) (hn : f.name.size ≤ 9223372036854775807) (g : Nat) (hg : g = w.heap.size) : Fabs (w.alloc (.cells #[.string f.name, .int .i64 f.main, .int .i64 f.cross, .int .i64 f.length, .int .i64 f.width, .int .i64 f.mass] 34)) (.slice (some ⟨g, 0, none⟩) 1 1) [f] := by
  subst hg
  refine ⟨_, 1, rfl, Nat.le_refl _, by decide, fun i hi => ?_⟩
  obtain rfl : i = 0 := by simp at hi; exact hi
  refine ⟨hn, _, 0, rfl, ?_⟩
  simp [FbAt, World.cell?_alloc_new]

/-- The error number of a fabric over a slab. -/
def givenI (f : Fb) (L W lap : Int) : Int := if fabsB [f] = true then (if rangeB L f.length lap = true ∧ rangeB W f.width lap = true then 0 else 2) else 1
theorem fabs_one {f : Fb} (h : fabsB [f] = true) : fbOk f = true := by
  unfold fabsB at h
  rw [Bool.and_eq_true] at h
  have := h.2
  rw [show ([f] : List Fb).length = 0 + 1 from rfl, fabTo_succ (by simp)] at this
  simp only [Bool.and_eq_true] at this
  exact this.2.1
theorem fb_bounds {f : Fb} (h : fbOk f = true) : (1 ≤ f.main ∧ f.main ≤ 16777216) ∧ (1 ≤ f.cross ∧ f.cross ≤ 16777216) ∧ (1 ≤ f.length ∧ f.length ≤ 20000) ∧ (1 ≤ f.width ∧ f.width ≤ 20000) ∧ (1 ≤ f.mass ∧ f.mass ≤ 16777216) := by
  unfold fbOk at h
  simp only [Bool.and_eq_true, inI_iff] at h
  obtain ⟨⟨⟨⟨⟨_, a⟩, b⟩, c⟩, d⟩, e⟩ := h
  exact ⟨a, b, c, d, e⟩

set_option maxRecDepth 100000 in
set_option maxHeartbeats 2000000 in
theorem given_c (f : Fb) (L W lap : Int) (hn : f.name.size ≤ 9223372036854775807) (w : World) :
    Calls Try.prog 42 #[(.agg #[.string f.name, .int .i64 f.main, .int .i64 f.cross, .int .i64 f.length, .int .i64 f.width, .int .i64 f.mass]), .int .i64 L, .int .i64 W, .int .i64 lap] w (Ret w (.int .i64 (givenI f L W lap))) := by
  cases hv : fabsB [f]
  · have HG := Lib.hid (show givenI f L W lap = 1 by unfold givenI; rw [hv]; rfl)
    go_enter Try.func42, Try.ntmps42
    go_wp2_with fail
    go_at_call 28; refine (fabValid_c [f] _ _ (fabCells_own f hn _ (by simp [size_ext]))).mono ?_; rintro e w' ⟨rfl, x, rfl⟩
    rw [hv]
    go_wp2
    go_ret
    rw [HG.out]
    exact Ret.of (by (repeat (first | exact grow_refl _ | refine grow_ext _ ?_ | refine grow_alloc _ ?_ | refine grow_drew ?_)))
  have hb := fb_bounds (fabs_one hv)
  have HV := Lib.hid hv
  cases h1 : inI L 1 1048576
  · have HG := Lib.hid (show givenI f L W lap = 2 by unfold givenI rangeB; rw [hv, h1]; simp)
    clear hv hb
    go_enter Try.func42, Try.ntmps42
    go_wp2_with fail
    go_at_call 28; refine (fabValid_c [f] _ _ (fabCells_own f hn _ (by simp [size_ext]))).mono ?_; rintro e w' ⟨rfl, x, rfl⟩
    rw [HV.out]
    go_wp2_with fail
    go_at_call 38; refine (within_v _ _ _ _ h1 _).mono ?_; rintro e w' ⟨rfl, x, rfl⟩
    go_wp2
    go_ret
    rw [HG.out]
    exact Ret.of (by (repeat (first | exact grow_refl _ | refine grow_ext _ ?_ | refine grow_alloc _ ?_ | refine grow_drew ?_)))
  cases h2 : inI W 1 1048576
  · have HG := Lib.hid (show givenI f L W lap = 2 by unfold givenI rangeB; rw [hv, h2]; simp)
    clear hv hb
    go_enter Try.func42, Try.ntmps42
    go_wp2_with fail
    go_at_call 28; refine (fabValid_c [f] _ _ (fabCells_own f hn _ (by simp [size_ext]))).mono ?_; rintro e w' ⟨rfl, x, rfl⟩
    rw [HV.out]
    go_wp2_with fail
    go_at_call 38; refine (within_v _ _ _ _ h1 _).mono ?_; rintro e w' ⟨rfl, x, rfl⟩
    go_wp2_with fail
    go_at_call 38; refine (within_v _ _ _ _ h2 _).mono ?_; rintro e w' ⟨rfl, x, rfl⟩
    go_wp2
    go_ret
    rw [HG.out]
    exact Ret.of (by (repeat (first | exact grow_refl _ | refine grow_ext _ ?_ | refine grow_alloc _ ?_ | refine grow_drew ?_)))
  have l1 := inI_iff.1 h1
  have l2 := inI_iff.1 h2
  obtain ⟨r, hr⟩ : ∃ r, inI lap 0 (min f.length f.width - 1) = r := ⟨_, rfl⟩
  have HG := Lib.hid (show givenI f L W lap = if r = true then 0 else 2 by
    unfold givenI
    rw [hv, if_pos rfl]
    cases r
    · rw [if_neg, if_neg (by simp)]
      rintro ⟨a, b⟩
      have a := (range_iff.1 a).2.2
      have b := (range_iff.1 b).2.2
      rcases inI_false hr with h | h <;> omega
    · have h := inI_iff.1 hr
      rw [if_pos rfl, if_pos]
      exact ⟨range_iff.2 ⟨l1, hb.2.2.1, by omega, by omega⟩, range_iff.2 ⟨l2, hb.2.2.2.1, by omega, by omega⟩⟩)
  have hfl := hb.2.2.1
  have hfw := hb.2.2.2.1
  clear hv hb
  cases r
  all_goals
    go_enter Try.func42, Try.ntmps42
    go_wp2_with fail
    go_at_call 28; refine (fabValid_c [f] _ _ (fabCells_own f hn _ (by simp [size_ext]))).mono ?_; rintro e w' ⟨rfl, x, rfl⟩
    rw [HV.out]
    go_wp2_with fail
    go_at_call 38; refine (within_v _ _ _ _ h1 _).mono ?_; rintro e w' ⟨rfl, x, rfl⟩
    go_wp2_with fail
    go_at_call 38; refine (within_v _ _ _ _ h2 _).mono ?_; rintro e w' ⟨rfl, x, rfl⟩
    go_wp2_with fail
    go_at_call 38; refine (within_v _ _ _ _ hr _).mono ?_; rintro e w' ⟨rfl, x, rfl⟩
    go_wp2
    go_ret
    rw [HG.out]
    exact Ret.of (by (repeat (first | exact grow_refl _ | refine grow_ext _ ?_ | refine grow_alloc _ ?_ | refine grow_drew ?_)))

set_option maxRecDepth 100000 in
set_option maxHeartbeats 2000000 in
theorem refGiven_c (f : Fb) (L W lap : Int) (hn : f.name.size ≤ 9223372036854775807) (w : World) :
    Calls Try.prog 18 #[(.agg #[.string f.name, .int .i64 f.main, .int .i64 f.cross, .int .i64 f.length, .int .i64 f.width, .int .i64 f.mass]), .int .i64 L, .int .i64 W, .int .i64 lap] w (Ret w (.int .i64 (givenI f L W lap))) := by
  cases hv : fabsB [f]
  · have HG := Lib.hid (show givenI f L W lap = 1 by unfold givenI; rw [hv]; rfl)
    go_enter Try.func18, Try.ntmps18
    go_wp2_with fail
    go_at_call 29; refine (refFabValid_c [f] _ _ (fabCells_own f hn _ (by simp [size_ext]))).mono ?_; rintro e w' ⟨rfl, x, rfl⟩
    rw [hv]
    go_wp2
    go_ret
    rw [HG.out]
    exact Ret.of (by (repeat (first | exact grow_refl _ | refine grow_ext _ ?_ | refine grow_alloc _ ?_ | refine grow_drew ?_)))
  have HV := Lib.hid hv
  cases h1 : rangeB L f.length lap
  · have HG := Lib.hid (show givenI f L W lap = 2 by unfold givenI; rw [hv, h1]; simp)
    clear hv
    go_enter Try.func18, Try.ntmps18
    go_wp2_with fail
    go_at_call 29; refine (refFabValid_c [f] _ _ (fabCells_own f hn _ (by simp [size_ext]))).mono ?_; rintro e w' ⟨rfl, x, rfl⟩
    rw [HV.out]
    go_wp2_with fail
    go_at_call 13; refine (refRange_v _ _ _ _ h1 _).mono ?_; rintro e w' ⟨rfl, x, rfl⟩
    go_wp2
    go_ret
    rw [HG.out]
    exact Ret.of (by (repeat (first | exact grow_refl _ | refine grow_ext _ ?_ | refine grow_alloc _ ?_ | refine grow_drew ?_)))
  cases h2 : rangeB W f.width lap
  · have HG := Lib.hid (show givenI f L W lap = 2 by unfold givenI; rw [hv, h2]; simp)
    clear hv
    go_enter Try.func18, Try.ntmps18
    go_wp2_with fail
    go_at_call 29; refine (refFabValid_c [f] _ _ (fabCells_own f hn _ (by simp [size_ext]))).mono ?_; rintro e w' ⟨rfl, x, rfl⟩
    rw [HV.out]
    go_wp2_with fail
    go_at_call 13; refine (refRange_v _ _ _ _ h1 _).mono ?_; rintro e w' ⟨rfl, x, rfl⟩
    go_wp2_with fail
    go_at_call 13; refine (refRange_v _ _ _ _ h2 _).mono ?_; rintro e w' ⟨rfl, x, rfl⟩
    go_wp2
    go_ret
    rw [HG.out]
    exact Ret.of (by (repeat (first | exact grow_refl _ | refine grow_ext _ ?_ | refine grow_alloc _ ?_ | refine grow_drew ?_)))
  have HG := Lib.hid (show givenI f L W lap = 0 by unfold givenI; rw [hv, h1, h2]; simp)
  clear hv
  go_enter Try.func18, Try.ntmps18
  go_wp2_with fail
  go_at_call 29; refine (refFabValid_c [f] _ _ (fabCells_own f hn _ (by simp [size_ext]))).mono ?_; rintro e w' ⟨rfl, x, rfl⟩
  rw [HV.out]
  go_wp2_with fail
  go_at_call 13; refine (refRange_v _ _ _ _ h1 _).mono ?_; rintro e w' ⟨rfl, x, rfl⟩
  go_wp2_with fail
  go_at_call 13; refine (refRange_v _ _ _ _ h2 _).mono ?_; rintro e w' ⟨rfl, x, rfl⟩
  go_wp2
  go_ret
  rw [HG.out]
  exact Ret.of (by (repeat (first | exact grow_refl _ | refine grow_ext _ ?_ | refine grow_alloc _ ?_ | refine grow_drew ?_)))

def sheetsR (f : Fb) (L W lap : Int) : Int × Int :=
  if givenI f L W lap = 0 then (if 1000 < max (numI L f.length lap) (numI W f.width lap) then (0, 4) else (numI L f.length lap * numI W f.width lap, 0)) else (0, givenI f L W lap)
theorem given_zero {f : Fb} {L W lap : Int} (h : givenI f L W lap = 0) : fabsB [f] = true ∧ rangeB L f.length lap = true ∧ rangeB W f.width lap = true := by
  unfold givenI at h
  split at h
  · rename_i h1
    split at h
    · rename_i h2; exact ⟨h1, h2.1, h2.2⟩
    · cases h
  · cases h
theorem mul_small {a b : Int} (ha : 1 ≤ a ∧ a ≤ 1000) (hb : 1 ≤ b ∧ b ≤ 1000) : 1 ≤ a * b ∧ a * b ≤ 1000000 := by
  refine ⟨?_, Int.le_trans (Int.mul_le_mul ha.2 hb.2 (by omega) (by omega)) (by decide)⟩
  have := Int.mul_pos (show 0 < a by omega) (show 0 < b by omega)
  omega

set_option maxRecDepth 100000 in
set_option maxHeartbeats 2000000 in
theorem sheets_c (f : Fb) (L W lap : Int) (hn : f.name.size ≤ 9223372036854775807) (w : World) :
    Calls Try.prog 20 #[(.agg #[.string f.name, .int .i64 f.main, .int .i64 f.cross, .int .i64 f.length, .int .i64 f.width, .int .i64 f.mass]), .int .i64 L, .int .i64 W, .int .i64 lap] w (Ret w (.tuple #[.int .i64 (sheetsR f L W lap).1, .int .i64 (sheetsR f L W lap).2])) := by
  by_cases hg : givenI f L W lap = 0
  · obtain ⟨_, r1, r2⟩ := given_zero hg
    have n1 := num_bound r1
    have n2 := num_bound r2
    have HG := Lib.hid hg
    have R1 := Lib.hid (fun w => number_c L f.length lap r1 w)
    have R2 := Lib.hid (fun w => number_c W f.width lap r2 w)
    have HS := Lib.hid (show sheetsR f L W lap = if 1000 < max (numI L f.length lap) (numI W f.width lap) then (0, 4) else (numI L f.length lap * numI W f.width lap, 0) by unfold sheetsR; rw [if_pos hg])
    clear hg r1 r2
    generalize numI L f.length lap = a at *
    generalize numI W f.width lap = b at *
    by_cases hm : 1000 < max a b
    · have HS2 := Lib.hid (show sheetsR f L W lap = (0, 4) by rw [HS.out, if_pos hm])
      have hd : decide (1000 < max a b) = true := by simp; omega
      go_enter Try.func20, Try.ntmps20
      go_wp2_with fail
      go_at_call 42; refine (given_c f L W lap hn _).mono ?_; rintro e w' ⟨rfl, x, rfl⟩
      rw [HG.out]
      go_wp2_with fail
      refine wp_region_grows (by kernel_rfl) (by kernel_rfl) ?_
      repeat (go_big_quiet_step (first | (go_at_call_of 39 (Value.int .i64 f.length); exact Calls.quiet_ext (R1.out _)) | (go_at_call_of 39 (Value.int .i64 f.width); exact Calls.quiet_ext (R2.out _))))
      refine wpQuiet_nil ?_; rintro _ ⟨xq, rfl⟩
      go_wp2
      go_ret2
      rw [HS2.out]
      exact Ret.of (by (repeat (first | exact grow_refl _ | refine grow_ext _ ?_ | refine grow_alloc _ ?_ | refine grow_drew ?_)))
    · have hm2 : a ≤ 1000 ∧ b ≤ 1000 := by omega
      have hp := mul_small ⟨n1.1, hm2.1⟩ ⟨n2.1, hm2.2⟩
      have HS2 := Lib.hid (show sheetsR f L W lap = (a * b, 0) by rw [HS.out, if_neg hm])
      have hd : decide (1000 < max a b) = false := by simp; omega
      go_enter Try.func20, Try.ntmps20
      go_wp2_with fail
      go_at_call 42; refine (given_c f L W lap hn _).mono ?_; rintro e w' ⟨rfl, x, rfl⟩
      rw [HG.out]
      go_wp2_with fail
      refine wp_region_grows (by kernel_rfl) (by kernel_rfl) ?_
      repeat (go_big_quiet_step (first | (go_at_call_of 39 (Value.int .i64 f.length); exact Calls.quiet_ext (R1.out _)) | (go_at_call_of 39 (Value.int .i64 f.width); exact Calls.quiet_ext (R2.out _))))
      refine wpQuiet_nil ?_; rintro _ ⟨xq, rfl⟩
      go_wp2
      go_ret2
      rw [HS2.out]
      exact Ret.of (by (repeat (first | exact grow_refl _ | refine grow_ext _ ?_ | refine grow_alloc _ ?_ | refine grow_drew ?_)))
  · have HS2 := Lib.hid (show sheetsR f L W lap = (0, givenI f L W lap) by unfold sheetsR; rw [if_neg hg])
    have HGC := Lib.hid (fun w => given_c f L W lap hn w)
    generalize givenI f L W lap = e0 at *
    have hb : (e0 == 0) = false := by simpa using hg
    go_enter Try.func20, Try.ntmps20
    go_wp2_with fail
    go_at_call 42; refine (HGC.out _).mono ?_; rintro e w' ⟨rfl, x, rfl⟩
    go_wp2
    go_ret2
    rw [HS2.out]
    exact Ret.of (by (repeat (first | exact grow_refl _ | refine grow_ext _ ?_ | refine grow_alloc _ ?_ | refine grow_drew ?_)))

set_option maxRecDepth 100000 in
set_option maxHeartbeats 2000000 in
theorem refCounted_c (f : Fb) (L W lap : Int) (hn : f.name.size ≤ 9223372036854775807) (w : World) :
    Calls Try.prog 23 #[(.agg #[.string f.name, .int .i64 f.main, .int .i64 f.cross, .int .i64 f.length, .int .i64 f.width, .int .i64 f.mass]), .int .i64 L, .int .i64 W, .int .i64 lap] w (Ret w (.tuple #[.int .i64 (sheetsR f L W lap).1, .int .i64 (sheetsR f L W lap).2])) := by
  by_cases hg : givenI f L W lap = 0
  · obtain ⟨_, r1, r2⟩ := given_zero hg
    have n1 := num_bound r1
    have n2 := num_bound r2
    have HG := Lib.hid hg
    have R1 := Lib.hid (fun w => refCount_c L f.length lap r1 w)
    have R2 := Lib.hid (fun w => refCount_c W f.width lap r2 w)
    have HS := Lib.hid (show sheetsR f L W lap = if 1000 < max (numI L f.length lap) (numI W f.width lap) then (0, 4) else (numI L f.length lap * numI W f.width lap, 0) by unfold sheetsR; rw [if_pos hg])
    clear hg r1 r2
    generalize numI L f.length lap = a at *
    generalize numI W f.width lap = b at *
    by_cases hm : 1000 < max a b
    · have HS2 := Lib.hid (show sheetsR f L W lap = (0, 4) by rw [HS.out, if_pos hm])
      by_cases hma : 1000 < a
      · have hd : decide (1000 < a) = true := by simp; omega
        go_enter Try.func23, Try.ntmps23
        go_wp2_with fail
        go_at_call 18; refine (refGiven_c f L W lap hn _).mono ?_; rintro e w' ⟨rfl, x, rfl⟩
        rw [HG.out]
        go_wp2_with fail
        refine wp_region_grows (by kernel_rfl) (by kernel_rfl) ?_
        repeat (go_big_quiet_step (first | (go_at_call_of 14 (Value.int .i64 f.length); exact Calls.quiet_ext (R1.out _)) | (go_at_call_of 14 (Value.int .i64 f.width); exact Calls.quiet_ext (R2.out _))))
        refine wpQuiet_nil ?_; rintro _ ⟨xq, rfl⟩
        go_wp2
        go_ret2
        rw [HS2.out]
        exact Ret.of (by (repeat (first | exact grow_refl _ | refine grow_ext _ ?_ | refine grow_alloc _ ?_ | refine grow_drew ?_)))
      · have hd : decide (1000 < a) = false := by simp; omega
        have hd2 : decide (1000 < b) = true := by simp; omega
        go_enter Try.func23, Try.ntmps23
        go_wp2_with fail
        go_at_call 18; refine (refGiven_c f L W lap hn _).mono ?_; rintro e w' ⟨rfl, x, rfl⟩
        rw [HG.out]
        go_wp2_with fail
        refine wp_region_grows (by kernel_rfl) (by kernel_rfl) ?_
        repeat (go_big_quiet_step (first | (go_at_call_of 14 (Value.int .i64 f.length); exact Calls.quiet_ext (R1.out _)) | (go_at_call_of 14 (Value.int .i64 f.width); exact Calls.quiet_ext (R2.out _))))
        refine wpQuiet_nil ?_; rintro _ ⟨xq, rfl⟩
        go_wp2
        go_ret2
        rw [HS2.out]
        exact Ret.of (by (repeat (first | exact grow_refl _ | refine grow_ext _ ?_ | refine grow_alloc _ ?_ | refine grow_drew ?_)))
    · have hm2 : a ≤ 1000 ∧ b ≤ 1000 := by omega
      have hp := mul_small ⟨n1.1, hm2.1⟩ ⟨n2.1, hm2.2⟩
      have HS2 := Lib.hid (show sheetsR f L W lap = (a * b, 0) by rw [HS.out, if_neg hm])
      have hd : decide (1000 < a) = false := by simp; omega
      have hd2 : decide (1000 < b) = false := by simp; omega
      go_enter Try.func23, Try.ntmps23
      go_wp2_with fail
      go_at_call 18; refine (refGiven_c f L W lap hn _).mono ?_; rintro e w' ⟨rfl, x, rfl⟩
      rw [HG.out]
      go_wp2_with fail
      refine wp_region_grows (by kernel_rfl) (by kernel_rfl) ?_
      repeat (go_big_quiet_step (first | (go_at_call_of 14 (Value.int .i64 f.length); exact Calls.quiet_ext (R1.out _)) | (go_at_call_of 14 (Value.int .i64 f.width); exact Calls.quiet_ext (R2.out _))))
      refine wpQuiet_nil ?_; rintro _ ⟨xq, rfl⟩
      go_wp2
      go_ret2
      rw [HS2.out]
      exact Ret.of (by (repeat (first | exact grow_refl _ | refine grow_ext _ ?_ | refine grow_alloc _ ?_ | refine grow_drew ?_)))
  · have HS2 := Lib.hid (show sheetsR f L W lap = (0, givenI f L W lap) by unfold sheetsR; rw [if_neg hg])
    have HGC := Lib.hid (fun w => refGiven_c f L W lap hn w)
    generalize givenI f L W lap = e0 at *
    have hb : (e0 == 0) = false := by simpa using hg
    go_enter Try.func23, Try.ntmps23
    go_wp2_with fail
    go_at_call 18; refine (HGC.out _).mono ?_; rintro e w' ⟨rfl, x, rfl⟩
    go_wp2
    go_ret2
    rw [HS2.out]
    exact Ret.of (by (repeat (first | exact grow_refl _ | refine grow_ext _ ?_ | refine grow_alloc _ ?_ | refine grow_drew ?_)))

def massR (f : Fb) (L W lap : Int) : Int × Int := ((sheetsR f L W lap).1 * f.mass, (sheetsR f L W lap).2)
theorem sheets_ok {f : Fb} {L W lap : Int} (h : (sheetsR f L W lap).2 = 0) : 1 ≤ (sheetsR f L W lap).1 ∧ (sheetsR f L W lap).1 ≤ 1000000 ∧ fabsB [f] = true ∧ givenI f L W lap = 0 ∧ numI L f.length lap ≤ 1000 ∧ numI W f.width lap ≤ 1000 ∧ (sheetsR f L W lap).1 = numI L f.length lap * numI W f.width lap := by
  unfold sheetsR at h ⊢
  by_cases hg : givenI f L W lap = 0
  · rw [if_pos hg] at h ⊢
    obtain ⟨hv, r1, r2⟩ := given_zero hg
    have n1 := num_bound r1
    have n2 := num_bound r2
    by_cases hm : 1000 < max (numI L f.length lap) (numI W f.width lap)
    · rw [if_pos hm] at h; cases h
    · rw [if_neg hm]
      have := mul_small ⟨n1.1, show numI L f.length lap ≤ 1000 by omega⟩ ⟨n2.1, show numI W f.width lap ≤ 1000 by omega⟩
      exact ⟨this.1, this.2, hv, hg, by omega, by omega, rfl⟩
  · rw [if_neg hg] at h; exact absurd h hg
theorem sheets_err {f : Fb} {L W lap : Int} (h : ¬ (sheetsR f L W lap).2 = 0) : (sheetsR f L W lap).1 = 0 := by
  unfold sheetsR at h ⊢
  by_cases hg : givenI f L W lap = 0
  · rw [if_pos hg] at h ⊢
    by_cases hm : 1000 < max (numI L f.length lap) (numI W f.width lap)
    · rw [if_pos hm]
    · rw [if_neg hm] at h; exact absurd rfl h
  · rw [if_neg hg]

set_option maxRecDepth 100000 in
set_option maxHeartbeats 2000000 in
theorem mass_c (f : Fb) (L W lap : Int) (hn : f.name.size ≤ 9223372036854775807) (w : World) :
    Calls Try.prog 21 #[(.agg #[.string f.name, .int .i64 f.main, .int .i64 f.cross, .int .i64 f.length, .int .i64 f.width, .int .i64 f.mass]), .int .i64 L, .int .i64 W, .int .i64 lap] w (Ret w (.tuple #[.int .i64 (massR f L W lap).1, .int .i64 (massR f L W lap).2])) := by
  have HSC := Lib.hid (fun w => sheets_c f L W lap hn w)
  have hok := @sheets_ok f L W lap
  have her := @sheets_err f L W lap
  unfold massR
  generalize sheetsR f L W lap = r at *
  obtain ⟨n, e0⟩ := r
  dsimp only at *
  by_cases hg : e0 = 0
  · obtain ⟨a1, a2, hv, hrest⟩ := hok hg
    clear hrest
    have hb := (fb_bounds (fabs_one hv)).2.2.2.2
    have hp : 0 ≤ n * f.mass ∧ n * f.mass ≤ 16777216000000 := ⟨Int.mul_nonneg (by omega) (by omega), Int.le_trans (Int.mul_le_mul a2 hb.2 (by omega) (by omega)) (by decide)⟩
    subst hg
    clear hok her hv
    go_enter Try.func21, Try.ntmps21
    go_wp2_with fail
    go_at_call 20; refine (HSC.out _).mono ?_; rintro e w' ⟨rfl, x, rfl⟩
    go_wp2
    go_ret2
    exact Ret.of (by (repeat (first | exact grow_refl _ | refine grow_ext _ ?_ | refine grow_alloc _ ?_ | refine grow_drew ?_)))
  · have h0 := her hg
    subst h0
    have hb : (e0 == 0) = false := by simpa using hg
    rw [Int.zero_mul]
    clear hok her
    go_enter Try.func21, Try.ntmps21
    go_wp2_with fail
    go_at_call 20; refine (HSC.out _).mono ?_; rintro e w' ⟨rfl, x, rfl⟩
    go_wp2
    go_ret2
    exact Ret.of (by (repeat (first | exact grow_refl _ | refine grow_ext _ ?_ | refine grow_alloc _ ?_ | refine grow_drew ?_)))

end Go.Proofs.Ytolcpkpfndnkbaa

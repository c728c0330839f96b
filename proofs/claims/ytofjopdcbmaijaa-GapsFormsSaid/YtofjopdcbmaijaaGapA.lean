/- Least gaps, the most bars of a row, and the gap of two cuts: package gaps. -/
import Derived.Test.YtofjopdcbmaijaaSzMap
import Derived.Test.YtofjopdcbmaijaaNameK
import Derived.Test.YtofjopdcbmaijaaCovA
namespace Go.Proofs.Ytofjopdcbmaijaa
open Go.RowKit
set_option maxRecDepth 20000

theorem gwithin_v (n lo hi : Int) (r : Bool) (h : inI n lo hi = r) (w : World) : Calls Try.prog 25 #[.int .i64 n, .int .i64 lo, .int .i64 hi] w (Ret w (.bool r)) := by
  unfold inI at h
  by_cases h1 : lo ≤ n
  · rw [decide_eq_true h1, Bool.true_and] at h
    have HR := Lib.hid h
    clear h
    go_enter Try.func25, Try.ntmps25
    go_wp2
    go_ret
    rw [← HR.out]
    exact Ret.of (by (repeat (first | exact grow_refl _ | refine grow_ext _ ?_ | refine grow_alloc _ ?_ | refine grow_drew ?_)))
  · rw [decide_eq_false h1, Bool.false_and] at h
    subst h
    go_enter Try.func25, Try.ntmps25
    go_wp2
    go_ret
    exact Ret.of (by (repeat (first | exact grow_refl _ | refine grow_ext _ ?_ | refine grow_alloc _ ?_ | refine grow_drew ?_)))
theorem gplace_v (n : Int) (r : Bool) (h : inI n (-1048576) 1048576 = r) (w : World) : Calls Try.prog 40 #[.int .i64 n] w (Ret w (.bool r)) := by
  have HW := Lib.hid (fun w => gwithin_v n _ _ r h w)
  clear h
  go_enter Try.func40, Try.ntmps40
  go_wp2_with fail
  go_at_call 25; refine (HW.out _).mono ?_; rintro e w' ⟨rfl, x1, rfl⟩
  go_wp2
  go_ret
  exact Ret.of (by (repeat (first | exact grow_refl _ | refine grow_ext _ ?_ | refine grow_alloc _ ?_ | refine grow_drew ?_)))

def leastI (d a : Int) : Int := max d (max (a + 5) 20)
theorem gleast_c (d a : Int) (ha : 1 ≤ a ∧ a ≤ 100) (w : World) : Calls Try.prog 26 #[.int .i64 d, .int .i64 a] w (Ret w (.int .i64 (leastI d a))) := by
  have HE := Lib.hid (show leastI d a = max d (max (a + 5) 20) from rfl)
  obtain ⟨a1, a2⟩ := ha
  go_enter Try.func26, Try.ntmps26
  go_wp2
  go_ret
  rw [HE.out]
  exact Ret.of (by (repeat (first | exact grow_refl _ | refine grow_ext _ ?_ | refine grow_alloc _ ?_ | refine grow_drew ?_)))
def leastE (d a : Int) : Int × Int := if sizeB d = true then (if inI a 1 100 = true then (leastI d a, 0) else (0, 2)) else (0, 1)
theorem gLeast_c (d a : Int) (w : World) : Calls Try.prog 8 #[.int .i64 d, .int .i64 a] w (Ret w (.tuple #[.int .i64 (leastE d a).1, .int .i64 (leastE d a).2])) := by
  unfold leastE
  cases hs : sizeB d
  · simp only [Bool.false_eq_true, if_false]
    have HS := Lib.hid hs
    clear hs
    go_enter Try.func8, Try.ntmps8
    go_wp2_with fail
    go_at_call 24; refine (size_v d _ HS.out _).mono ?_; rintro e w' ⟨rfl, x1, rfl⟩
    go_wp2
    go_ret2
    exact Ret.of (by (repeat (first | exact grow_refl _ | refine grow_ext _ ?_ | refine grow_alloc _ ?_ | refine grow_drew ?_)))
  · simp only [if_true]
    have HS := Lib.hid hs
    clear hs
    cases ha : inI a 1 100
    · simp only [Bool.false_eq_true, if_false]
      have HA := Lib.hid ha
      clear ha
      go_enter Try.func8, Try.ntmps8
      go_wp2_with fail
      go_at_call 24; refine (size_v d _ HS.out _).mono ?_; rintro e w' ⟨rfl, x1, rfl⟩
      go_wp2_with fail
      go_at_call 25; refine (gwithin_v _ _ _ _ HA.out _).mono ?_; rintro e w' ⟨rfl, x2, rfl⟩
      go_wp2
      go_ret2
      exact Ret.of (by (repeat (first | exact grow_refl _ | refine grow_ext _ ?_ | refine grow_alloc _ ?_ | refine grow_drew ?_)))
    · simp only [if_true]
      have HA := Lib.hid ha
      have HL := Lib.hid (fun w => gleast_c d a (inI_iff.1 ha) w)
      clear ha
      generalize leastI d a = L at *
      go_enter Try.func8, Try.ntmps8
      go_wp2_with fail
      go_at_call 24; refine (size_v d _ HS.out _).mono ?_; rintro e w' ⟨rfl, x1, rfl⟩
      go_wp2_with fail
      go_at_call 25; refine (gwithin_v _ _ _ _ HA.out _).mono ?_; rintro e w' ⟨rfl, x2, rfl⟩
      go_wp2_with fail
      go_at_call 26; refine (HL.out _).mono ?_; rintro e w' ⟨rfl, x3, rfl⟩
      go_wp2
      go_ret2
      exact Ret.of (by (repeat (first | exact grow_refl _ | refine grow_ext _ ?_ | refine grow_alloc _ ?_ | refine grow_drew ?_)))

def mostI (w c d a : Int) : Int := if w - 2 * c < d then 0 else (w - 2 * c + leastI d a) / (d + leastI d a)
def mostE (w c d a : Int) : Int × Int := if sizeB d = true then (if inI w 1 1048576 = true ∧ inI c 0 200 = true ∧ inI a 1 100 = true then (mostI w c d a, 0) else (0, 2)) else (0, 1)
theorem leastI_ge (d a : Int) : 20 ≤ leastI d a := by unfold leastI; omega
theorem leastI_le {d a : Int} (hd : sizeB d = true) (ha : a ≤ 100) : leastI d a ≤ 105 := by
  have := size_iff.1 hd
  unfold leastI; omega

set_option maxHeartbeats 1000000 in
theorem gMost_v (wd c d a : Int) (r e : Int) (h : mostE wd c d a = (r, e)) (w : World) : Calls Try.prog 9 #[.int .i64 wd, .int .i64 c, .int .i64 d, .int .i64 a] w (Ret w (.tuple #[.int .i64 r, .int .i64 e])) := by
  unfold mostE at h
  cases hs : sizeB d
  · rw [hs] at h
    simp only [Bool.false_eq_true, if_false] at h
    cases h
    have HS := Lib.hid hs
    clear hs
    go_enter Try.func9, Try.ntmps9
    go_wp2_with fail
    go_at_call 24; refine (size_v d _ HS.out _).mono ?_; rintro e w' ⟨rfl, x1, rfl⟩
    go_wp2
    go_ret2
    exact Ret.of (by (repeat (first | exact grow_refl _ | refine grow_ext _ ?_ | refine grow_alloc _ ?_ | refine grow_drew ?_)))
  rw [hs] at h
  simp only [if_true] at h
  have HS := Lib.hid hs
  have hd := size_iff.1 hs
  cases h1 : inI wd 1 1048576
  · rw [h1] at h
    simp only [Bool.false_eq_true, false_and, if_false] at h
    cases h
    have H1 := Lib.hid h1
    clear hs h1 hd
    go_enter Try.func9, Try.ntmps9
    go_wp2_with fail
    go_at_call 24; refine (size_v d _ HS.out _).mono ?_; rintro e w' ⟨rfl, x1, rfl⟩
    go_wp2_with fail
    go_at_call 25; refine (gwithin_v _ _ _ _ H1.out _).mono ?_; rintro e w' ⟨rfl, x2, rfl⟩
    go_wp2
    go_ret2
    exact Ret.of (by (repeat (first | exact grow_refl _ | refine grow_ext _ ?_ | refine grow_alloc _ ?_ | refine grow_drew ?_)))
  have H1 := Lib.hid h1
  cases h2 : inI c 0 200
  · rw [h2] at h
    simp only [Bool.false_eq_true, false_and, and_false, if_false] at h
    cases h
    have H2 := Lib.hid h2
    clear hs h1 h2 hd
    go_enter Try.func9, Try.ntmps9
    go_wp2_with fail
    go_at_call 24; refine (size_v d _ HS.out _).mono ?_; rintro e w' ⟨rfl, x1, rfl⟩
    go_wp2_with fail
    go_at_call 25; refine (gwithin_v _ _ _ _ H1.out _).mono ?_; rintro e w' ⟨rfl, x2, rfl⟩
    go_wp2_with fail
    go_at_call 25; refine (gwithin_v _ _ _ _ H2.out _).mono ?_; rintro e w' ⟨rfl, x3, rfl⟩
    go_wp2
    go_ret2
    exact Ret.of (by (repeat (first | exact grow_refl _ | refine grow_ext _ ?_ | refine grow_alloc _ ?_ | refine grow_drew ?_)))
  have H2 := Lib.hid h2
  cases h3 : inI a 1 100
  · rw [h3] at h
    simp only [Bool.false_eq_true, and_false, if_false] at h
    cases h
    have H3 := Lib.hid h3
    clear hs h1 h2 h3 hd
    go_enter Try.func9, Try.ntmps9
    go_wp2_with fail
    go_at_call 24; refine (size_v d _ HS.out _).mono ?_; rintro e w' ⟨rfl, x1, rfl⟩
    go_wp2_with fail
    go_at_call 25; refine (gwithin_v _ _ _ _ H1.out _).mono ?_; rintro e w' ⟨rfl, x2, rfl⟩
    go_wp2_with fail
    go_at_call 25; refine (gwithin_v _ _ _ _ H2.out _).mono ?_; rintro e w' ⟨rfl, x3, rfl⟩
    go_wp2_with fail
    go_at_call 25; refine (gwithin_v _ _ _ _ H3.out _).mono ?_; rintro e w' ⟨rfl, x4, rfl⟩
    go_wp2
    go_ret2
    exact Ret.of (by (repeat (first | exact grow_refl _ | refine grow_ext _ ?_ | refine grow_alloc _ ?_ | refine grow_drew ?_)))
  have H3 := Lib.hid h3
  rw [h1, h2, h3] at h
  simp only [and_self, if_true] at h
  have HL := Lib.hid (fun w => gleast_c d a (inI_iff.1 h3) w)
  have g1 := leastI_ge d a
  have g2 := leastI_le hs (inI_iff.1 h3).2
  obtain ⟨w1, w2⟩ := inI_iff.1 h1
  obtain ⟨c1, c2⟩ := inI_iff.1 h2
  unfold mostI at h
  clear hs h1 h2 h3
  generalize leastI d a = L at *
  have d1 : 6 ≤ d ∧ d ≤ 40 := by omega
  obtain ⟨d1, d2⟩ := d1
  by_cases hlt : wd - 2 * c < d
  · rw [if_pos hlt] at h
    cases h
    clear hd
    go_enter Try.func9, Try.ntmps9
    go_wp2_with fail
    go_at_call 24; refine (size_v d _ HS.out _).mono ?_; rintro e w' ⟨rfl, x1, rfl⟩
    go_wp2_with fail
    go_at_call 25; refine (gwithin_v _ _ _ _ H1.out _).mono ?_; rintro e w' ⟨rfl, x2, rfl⟩
    go_wp2_with fail
    go_at_call 25; refine (gwithin_v _ _ _ _ H2.out _).mono ?_; rintro e w' ⟨rfl, x3, rfl⟩
    go_wp2_with fail
    go_at_call 25; refine (gwithin_v _ _ _ _ H3.out _).mono ?_; rintro e w' ⟨rfl, x4, rfl⟩
    go_wp2_with fail
    go_at_call 26; refine (HL.out _).mono ?_; rintro e w' ⟨rfl, x5, rfl⟩
    go_wp2
    go_ret2
    exact Ret.of (by (repeat (first | exact grow_refl _ | refine grow_ext _ ?_ | refine grow_alloc _ ?_ | refine grow_drew ?_)))
  · rw [if_neg hlt] at h
    obtain ⟨rfl, rfl⟩ : (wd - 2 * c + L) / (d + L) = r ∧ 0 = e := by simpa using h
    have k1 : 0 ≤ wd - 2 * c + L := by omega
    have k2 : 0 < d + L := by omega
    have k3 : 0 ≤ (wd - 2 * c + L) / (d + L) ∧ (wd - 2 * c + L) / (d + L) ≤ wd - 2 * c + L := ⟨Int.ediv_nonneg k1 (by omega), Int.ediv_le_self _ k1⟩
    have k4 : (wd - 2 * c + L).tdiv (d + L) = (wd - 2 * c + L) / (d + L) := Int.tdiv_eq_ediv_of_nonneg k1
    clear h hd
    go_enter Try.func9, Try.ntmps9
    go_wp2_with fail
    go_at_call 24; refine (size_v d _ HS.out _).mono ?_; rintro e w' ⟨rfl, x1, rfl⟩
    go_wp2_with fail
    go_at_call 25; refine (gwithin_v _ _ _ _ H1.out _).mono ?_; rintro e w' ⟨rfl, x2, rfl⟩
    go_wp2_with fail
    go_at_call 25; refine (gwithin_v _ _ _ _ H2.out _).mono ?_; rintro e w' ⟨rfl, x3, rfl⟩
    go_wp2_with fail
    go_at_call 25; refine (gwithin_v _ _ _ _ H3.out _).mono ?_; rintro e w' ⟨rfl, x4, rfl⟩
    go_wp2_with fail
    go_at_call 26; refine (HL.out _).mono ?_; rintro e w' ⟨rfl, x5, rfl⟩
    go_wp2
    go_ret2
    exact Ret.of (by (repeat (first | exact grow_refl _ | refine grow_ext _ ?_ | refine grow_alloc _ ?_ | refine grow_drew ?_)))

def gapB (a b : Bx) : Int := max (b.ly - a.hy) (max (a.ly - b.hy) (max (b.lz - a.hz) (a.lz - b.hz)))
def SmallB (a : Bx) : Prop := (-2000000 ≤ a.ly ∧ a.ly ≤ 2000000) ∧ (-2000000 ≤ a.lz ∧ a.lz ≤ 2000000) ∧ (-2000000 ≤ a.hy ∧ a.hy ≤ 2000000) ∧ (-2000000 ≤ a.hz ∧ a.hz ≤ 2000000)
theorem run_max_int4 {P : Program} (w : World) (ts : Array TypeId) (t : TypeId) (k k' k'' k3 : IntKind) (x y z u : Int) : (Builtin.max_ ts t #[.int k x, .int k' y, .int k'' z, .int k3 u]).run P w = .ok (.int k (max x (max y (max z u)))) w := by
  simp [Builtin.max_, Builtin.max2]; omega
attribute [local go_sem] run_max_int4
set_option maxHeartbeats 1000000 in
theorem gap_c (a b : Bx) (ha : SmallB a) (hb : SmallB b) (w : World) : Calls Try.prog 29 #[(.agg #[.int .i64 a.lx, .int .i64 a.ly, .int .i64 a.lz, .int .i64 a.hx, .int .i64 a.hy, .int .i64 a.hz]), (.agg #[.int .i64 b.lx, .int .i64 b.ly, .int .i64 b.lz, .int .i64 b.hx, .int .i64 b.hy, .int .i64 b.hz])] w (Ret w (.int .i64 (gapB a b))) := by
  have HE := Lib.hid (show gapB a b = max (b.ly - a.hy) (max (a.ly - b.hy) (max (b.lz - a.hz) (a.lz - b.hz))) from rfl)
  obtain ⟨⟨a1, a2⟩, ⟨a3, a4⟩, ⟨a5, a6⟩, a7, a8⟩ := ha
  obtain ⟨⟨b1, b2⟩, ⟨b3, b4⟩, ⟨b5, b6⟩, b7, b8⟩ := hb
  go_enter Try.func29, Try.ntmps29
  go_wp2
  go_ret
  rw [HE.out]
  exact Ret.of (by (repeat (first | exact grow_refl _ | refine grow_ext _ ?_ | refine grow_alloc _ ?_ | refine grow_drew ?_)))

end Go.Proofs.Ytofjopdcbmaijaa

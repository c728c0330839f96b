/- StA, RatA, MemA, Mb in one text. -/
import Derived.Test.YtofjopdcbmaijaaGreatCovK0
import Derived.Test.YtofjopdcbmaijaaGreatExtK
import Derived.Test.YtofjopdcbmaijaaGreatSolK
import Derived.Test.YtofjopdcbmaijaaGreatNameK
import Derived.Test.YtofjopdcbmaijaaGreatBoxK2
namespace Go.Proofs.YtofjopdcbmaijaaGreat
open Go.RowKit
set_option maxRecDepth 20000

def areaI (d : Int) : Int := (7854 * d * d + 50) / 100
theorem areaI_range {d : Int} (h : sizeB d = true) : 0 ≤ areaI d ∧ areaI d ≤ 130000 := by
  rcases size_iff.1 h with rfl | rfl | rfl | rfl | rfl | rfl | rfl | rfl | rfl <;> decide
theorem areaSt_c (d r : Int) (h : sizeB d = true) (hr : areaI d = r) (w : World) : Calls Tryz.prog 68 #[.int .i64 d] w (Ret w (.int .i64 r)) := by
  unfold areaI at hr
  rcases size_iff.1 h with rfl | rfl | rfl | rfl | rfl | rfl | rfl | rfl | rfl
  all_goals
    simp at hr
    subst hr
    clear h
    go_enter Tryz.func68, Tryz.ntmps68
    go_wp2
    go_ret
    exact Ret.of (by (repeat (first | exact grow_refl _ | refine grow_ext _ ?_ | refine grow_alloc _ ?_ | refine grow_drew ?_)))
theorem refArea_c (d r : Int) (h : sizeB d = true) (hr : areaI d = r) (w : World) : Calls Tryz.prog 53 #[.int .i64 d] w (Ret w (.int .i64 r)) := by
  unfold areaI at hr
  rcases size_iff.1 h with rfl | rfl | rfl | rfl | rfl | rfl | rfl | rfl | rfl
  all_goals
    simp at hr
    subst hr
    clear h
    go_enter Tryz.func53, Tryz.ntmps53
    go_wp2
    go_ret
    exact Ret.of (by (repeat (first | exact grow_refl _ | refine grow_ext _ ?_ | refine grow_alloc _ ?_ | refine grow_drew ?_)))
theorem area1_c (d r : Int) (h : sizeB d = true) (hr : areaI d = r) (g : Nat) (w : World) (hg : w.cell? ⟨g, 0, none⟩ = some (.int .i64 d)) : Calls Tryz.prog 67 #[.pointer (some ⟨g, 0, none⟩)] w (Ret w (.int .i64 r)) := by
  have HA := Lib.hid (fun w => areaSt_c d r h hr w)
  clear h hr
  go_enter Tryz.func67, Tryz.ntmps67
  go_wp2_with fail
  go_at_call 68; refine (HA.out _).mono ?_; rintro e w' ⟨rfl, x1, rfl⟩
  go_wp2
  go_ret
  exact Ret.of (by (repeat (first | exact grow_refl _ | refine grow_ext _ ?_ | refine grow_alloc _ ?_ | refine grow_drew ?_)))
theorem enters_area1 : Enters 67 := enters_of Tryz.func67 (by decide) (by simp [Tryz.f67])
theorem AreaSt_v (d r : Int) (h : sizeB d = true) (hr : areaI d = r) (w : World) : Calls Tryz.prog 27 #[.int .i64 d] w (Ret w (.tuple #[.int .i64 r, .int .i64 0])) := by
  have HN := Lib.hid (fun caps w hf => sized_ok d r h _ enters_area1 caps w hf)
  have HR := Lib.hid (fun g w hg => area1_c d r h hr g w hg)
  clear h hr
  go_enter Tryz.func27, Tryz.ntmps27
  go_wp2_with fail
  go_at_call 66; refine (HN.out _ _ (fun x => HR.out _ _ (by simp [go_sem]))).mono ?_; rintro e w' ⟨rfl, x1, rfl⟩
  go_wp2
  go_ret2
  exact Ret.of (by (repeat (first | exact grow_refl _ | refine grow_ext _ ?_ | refine grow_alloc _ ?_ | refine grow_drew ?_)))

end Go.Proofs.YtofjopdcbmaijaaGreat

namespace Go.Proofs.YtofjopdcbmaijaaGreat
open Go.RowKit
set_option maxRecDepth 20000

set_option maxRecDepth 100000 in
set_option maxHeartbeats 1000000 in
theorem gcdU_c (a b : Nat) (ha : a < 18446744073709551616) (hb : b < 18446744073709551616) (w : World) :
    Calls Tryz.prog 58 #[.int .u64 a, .int .u64 b] w (Ret w (.int .u64 (Nat.gcd a b : Nat))) := by
  go_enter Tryz.func58, Tryz.ntmps58
  go_wp2_with fail
  go_loopw [0, 1] (fun x y wr => ∃ p q : Nat, x = .int .u64 p ∧ y = .int .u64 q ∧ (p < 18446744073709551616 ∧ q < 18446744073709551616) ∧ Nat.gcd p q = Nat.gcd a b ∧ ∃ z, wr = ext w z) (fun _ y _ => (intOf y).toNat)
  case atStart => exact ⟨a, b, rfl, rfl, ⟨ha, hb⟩, rfl, ext_of (by (repeat (first | exact grow_refl _ | refine grow_ext _ ?_ | refine grow_alloc _ ?_ | refine grow_drew ?_)))⟩
  case round =>
    obtain ⟨p, q, rfl, rfl, ⟨hp, hq⟩, hg, z, rfl⟩ := hrel
    have HG := Lib.hid hg
    clear hg ha hb
    by_cases h0 : q = 0
    · subst h0
      go_wp2
      go_ret
      rw [← HG.out, Nat.gcd_zero_right]
      exact Ret.of (by (repeat (first | exact grow_refl _ | refine grow_ext _ ?_ | refine grow_alloc _ ?_ | refine grow_drew ?_)))
    · have d1 : ((q : Int) != 0) = true := by simp; omega
      have hq0 : (q : Int) ≠ 0 := by omega
      have hlt := Nat.mod_lt p (show 0 < q by omega)
      have ht : Int.tmod (p : Int) (q : Int) = ((p % q : Nat) : Int) := rfl
      obtain ⟨m, hm⟩ : ∃ m, p % q = m := ⟨_, rfl⟩
      rw [hm] at ht hlt
      have hw : IntKind.u64.wrap (m : Int) = (m : Int) := by rw [IntKind.wrap_u64]; omega
      have HM := Lib.hid (show Nat.gcd q m = Nat.gcd a b by rw [← HG.out, ← hm, Nat.gcd_comm q, ← Nat.gcd_rec, Nat.gcd_comm])
      clear hm h0
      go_wp2_with fail
      refine wp_region_grows (by kernel_rfl) (by kernel_rfl) ?_
      repeat (go_big_quiet_step (fail))
      refine wpQuiet_nil ?_; rintro _ ⟨xq, rfl⟩
      go_wp2
      go_roundw
      case rel => exact ⟨q, m, rfl, rfl, ⟨hq, by omega⟩, HM.out, ext_of (by (repeat (first | exact grow_refl _ | refine grow_ext _ ?_ | refine grow_alloc _ ?_ | refine grow_drew ?_)))⟩
      case measure => simp [intOf]; omega

set_option maxHeartbeats 1000000 in
theorem sizeU_c (n : Nat) (hn : n ≤ 9223372036854775807) (w : World) : Calls Tryz.prog 60 #[.int .i64 n] w (Ret w (.int .u64 n)) := by
  have hw : IntKind.u64.wrap (n : Int) = (n : Int) := by rw [IntKind.wrap_u64]; omega
  have d1 : decide ((n : Int) < 0) = false := by simp
  go_enter Tryz.func60, Tryz.ntmps60
  go_wp2
  go_ret
  exact Ret.of (by (repeat (first | exact grow_refl _ | refine grow_ext _ ?_ | refine grow_alloc _ ?_ | refine grow_drew ?_)))

set_option maxHeartbeats 1000000 in
theorem signed_c (a b : Nat) (ha : a ≤ 1152921504606846976) (hb : b ≤ 1152921504606846976) (w : World) :
    Calls Tryz.prog 65 #[.bool false, .int .u64 a, .int .u64 b] w (Ret w (.tuple #[.agg #[.int .i64 a, .int .i64 b], .int .i64 0])) := by
  have h1 : IntKind.i64.wrap (a : Int) = (a : Int) := IntWalk.i64_in _ (by omega)
  have h2 : IntKind.i64.wrap (b : Int) = (b : Int) := IntWalk.i64_in _ (by omega)
  have d1 : decide ((1152921504606846976 : Int) < (a : Int)) = false := by simp; omega
  have d2 : decide ((1152921504606846976 : Int) < (b : Int)) = false := by simp; omega
  go_enter Tryz.func65, Tryz.ntmps65
  go_wp2
  refine bodyPost_ret (v := .tuple #[.agg #[.int .i64 a, .int .i64 b], .int .i64 0]) (by simp [results, Tryz.results65, go_sem]) rfl ?_
  exact Ret.of (by (repeat (first | exact grow_refl _ | refine grow_ext _ ?_ | refine grow_alloc _ ?_ | refine grow_drew ?_)))

/-- The fraction in lowest terms, of numbers that are not negative. -/
def fracV (a b : Nat) : Value := .agg #[.int .i64 ((a / Nat.gcd a b : Nat) : Int), .int .i64 ((b / Nat.gcd a b : Nat) : Int)]

set_option maxRecDepth 100000 in
set_option maxHeartbeats 2000000 in
theorem make_c (a b : Nat) (ha : a ≤ 1152921504606846976) (hb : b ≤ 1152921504606846976) (hb0 : 0 < b) (w : World) :
    Calls Tryz.prog 28 #[.int .i64 a, .int .i64 b] w (Ret w (.tuple #[fracV a b, .int .i64 0])) := by
  have HG := Lib.hid (fun w => gcdU_c a b (by omega) (by omega) w)
  have hg0 := Nat.gcd_pos_of_pos_right a hb0
  have hgb := Nat.gcd_le_right a hb0
  have HF := Lib.hid (show fracV a b = .agg #[.int .i64 ((a / Nat.gcd a b : Nat) : Int), .int .i64 ((b / Nat.gcd a b : Nat) : Int)] from rfl)
  have hda := Nat.div_le_self a (Nat.gcd a b)
  have hdb := Nat.div_le_self b (Nat.gcd a b)
  obtain ⟨g, hg⟩ : ∃ g, Nat.gcd a b = g := ⟨_, rfl⟩
  rw [hg] at HG hg0 hgb HF hda hdb
  have ht1 : Int.tdiv (a : Int) (g : Int) = ((a / g : Nat) : Int) := rfl
  have ht2 : Int.tdiv (b : Int) (g : Int) = ((b / g : Nat) : Int) := rfl
  obtain ⟨p, hp⟩ : ∃ p, a / g = p := ⟨_, rfl⟩
  obtain ⟨q, hq⟩ : ∃ q, b / g = q := ⟨_, rfl⟩
  rw [hp] at ht1 hda HF
  rw [hq] at ht2 hdb HF
  have HS := Lib.hid (fun w => signed_c p q (by omega) (by omega) w)
  have w1 : IntKind.u64.wrap (p : Int) = (p : Int) := by rw [IntKind.wrap_u64]; omega
  have w2 : IntKind.u64.wrap (q : Int) = (q : Int) := by rw [IntKind.wrap_u64]; omega
  have d0 : ((b : Int) == 0) = false := by simp; omega
  have d1 : decide ((a : Int) < 0) = false := by simp
  have d2 : decide ((b : Int) < 0) = false := by simp
  have hgi : (g : Int) ≠ 0 := by omega
  have e0 : (false != false) = false := rfl
  have HSA := Lib.hid (fun w => sizeU_c a (by omega) w)
  have HSB := Lib.hid (fun w => sizeU_c b (by omega) w)
  clear hg hp hq
  cases d3 : ((a : Int) != 0)
  all_goals
    go_enter Tryz.func28, Tryz.ntmps28
    go_wp2_with fail
    go_at_call 60; refine (HSA.out _).mono ?_; rintro e w' ⟨rfl, x1, rfl⟩
    go_wp2_with fail
    go_at_call 60; refine (HSB.out _).mono ?_; rintro e w' ⟨rfl, x2, rfl⟩
    go_wp2_with fail
    go_at_call 58; refine (HG.out _).mono ?_; rintro e w' ⟨rfl, x3, rfl⟩
    go_wp2_with fail
    refine wp_region_tail 18 (by kernel_rfl) (by kernel_rfl) ?_; simp only [List.take_succ_cons, List.take_zero, List.drop_succ_cons, List.drop_zero]
    repeat (go_big_quiet_step ((go_at_call 65; exact Calls.quiet_ext (HS.out _))))
    refine wpQuiet_nil ?_; rintro _ ⟨xq, rfl⟩
    go_wp2
    rw [HF.out]
    refine bodyPost_ret (v := .tuple #[.agg #[.int .i64 p, .int .i64 q], .int .i64 0]) (by simp [results, Tryz.results28, go_sem]) rfl ?_
    exact Ret.of (by (repeat (first | exact grow_refl _ | refine grow_ext _ ?_ | refine grow_alloc _ ?_ | refine grow_drew ?_)))

end Go.Proofs.YtofjopdcbmaijaaGreat

namespace Go.Proofs.YtofjopdcbmaijaaGreat
open Go.RowKit
set_option maxRecDepth 20000

def memberB (s : ByteArray) (l m : List Bx) (c a p : Int) : Bool := nameB s && (solidB l m && (inI c 0 200 && (inI a 1 100 && inI p 1 200)))
theorem member_iff {s : ByteArray} {l m : List Bx} {c a p : Int} : memberB s l m c a p = true ↔ nameB s = true ∧ solidB l m = true ∧ (0 ≤ c ∧ c ≤ 200) ∧ (1 ≤ a ∧ a ≤ 100) ∧ 1 ≤ p ∧ p ≤ 200 := by
  unfold memberB; simp only [Bool.and_eq_true, inI_iff]

theorem within17_v (n lo hi : Int) (r : Bool) (h : inI n lo hi = r) (w : World) : Calls Tryz.prog 87 #[.int .i64 n, .int .i64 lo, .int .i64 hi] w (Ret w (.bool r)) := by
  cases r
  · rcases inI_false h with h1 | h1
    · have d1 : decide (lo ≤ n) = false := by simp; omega
      clear h
      go_enter Tryz.func87, Tryz.ntmps87
      go_wp2
      go_ret
      exact Ret.of (by (repeat (first | exact grow_refl _ | refine grow_ext _ ?_ | refine grow_alloc _ ?_ | refine grow_drew ?_)))
    · have d1 : decide (n ≤ hi) = false := by simp; omega
      clear h
      go_enter Tryz.func87, Tryz.ntmps87
      go_wp2
      all_goals
        go_ret
        exact Ret.bool (by simp <;> omega) (by (repeat (first | exact grow_refl _ | refine grow_ext _ ?_ | refine grow_alloc _ ?_ | refine grow_drew ?_)))
  · have h1 := inI_iff.1 h
    clear h
    obtain ⟨h1, h2⟩ := h1
    go_enter Tryz.func87, Tryz.ntmps87
    go_wp2
    all_goals
      go_ret
      exact Ret.bool (by simp <;> omega) (by (repeat (first | exact grow_refl _ | refine grow_ext _ ?_ | refine grow_alloc _ ?_ | refine grow_drew ?_)))

set_option maxHeartbeats 2000000 in
theorem solidMember_v (s : ByteArray) (l m : List Bx) (u t : Value) (c a p : Int) (r : Bool) (hr : memberB s l m c a p = r) (hs : s.size ≤ 9223372036854775807) (w : World) (hl : Boxes w u l) (hm : Boxes w t m) :
    Calls Tryz.prog 45 #[.agg #[.string s, u, t, .int .i64 c, .int .i64 a, .int .i64 p]] w (Ret w (.bool r)) := by
  have HL := Lib.hid hl
  have HM := Lib.hid hm
  have HI := Lib.hid (fun r h w => isName_v s r h hs w)
  have HV := Lib.hid (fun r h w hl hm => solidValid_v l m u t r h w hl hm)
  clear hl hm
  unfold memberB at hr
  cases hn : nameB s
  · obtain rfl : false = r := by rw [hn] at hr; simpa using hr
    have HN := Lib.hid hn
    clear hn hr
    go_enter Tryz.func45, Tryz.ntmps45
    go_wp2_with fail
    go_at_call 88; refine (HI.out _ HN.out _).mono ?_; rintro e w' ⟨rfl, x1, rfl⟩
    go_wp2
    go_ret
    exact Ret.of (by (repeat (first | exact grow_refl _ | refine grow_ext _ ?_ | refine grow_alloc _ ?_ | refine grow_drew ?_)))
  have HN := Lib.hid hn
  rw [hn, Bool.true_and] at hr
  cases hb : solidB l m
  · obtain rfl : false = r := by rw [hb] at hr; simpa using hr
    have HB := Lib.hid hb
    clear hn hr hb
    go_enter Tryz.func45, Tryz.ntmps45
    go_wp2_with fail
    go_at_call 88; refine (HI.out _ HN.out _).mono ?_; rintro e w' ⟨rfl, x1, rfl⟩
    go_wp2_with fail
    go_at_call 54; refine (HV.out _ HB.out _ (HL.out.below (by (repeat (first | exact grow_refl _ | refine grow_ext _ ?_ | refine grow_alloc _ ?_ | refine grow_drew ?_)))) (HM.out.below (by (repeat (first | exact grow_refl _ | refine grow_ext _ ?_ | refine grow_alloc _ ?_ | refine grow_drew ?_))))).mono ?_; rintro e w' ⟨rfl, x2, rfl⟩
    go_wp2
    go_ret
    exact Ret.of (by (repeat (first | exact grow_refl _ | refine grow_ext _ ?_ | refine grow_alloc _ ?_ | refine grow_drew ?_)))
  have HB := Lib.hid hb
  rw [hb, Bool.true_and] at hr
  clear hn hb
  cases h1 : inI c 0 200
  · obtain rfl : false = r := by rw [h1] at hr; simpa using hr
    have H1 := Lib.hid h1
    clear h1 hr
    go_enter Tryz.func45, Tryz.ntmps45
    go_wp2_with fail
    go_at_call 88; refine (HI.out _ HN.out _).mono ?_; rintro e w' ⟨rfl, x1, rfl⟩
    go_wp2_with fail
    go_at_call 54; refine (HV.out _ HB.out _ (HL.out.below (by (repeat (first | exact grow_refl _ | refine grow_ext _ ?_ | refine grow_alloc _ ?_ | refine grow_drew ?_)))) (HM.out.below (by (repeat (first | exact grow_refl _ | refine grow_ext _ ?_ | refine grow_alloc _ ?_ | refine grow_drew ?_))))).mono ?_; rintro e w' ⟨rfl, x2, rfl⟩
    go_wp2_with fail
    go_at_call 87; refine (within17_v _ _ _ _ H1.out _).mono ?_; rintro e w' ⟨rfl, x3, rfl⟩
    go_wp2
    go_ret
    exact Ret.of (by (repeat (first | exact grow_refl _ | refine grow_ext _ ?_ | refine grow_alloc _ ?_ | refine grow_drew ?_)))
  have H1 := Lib.hid h1
  rw [h1, Bool.true_and] at hr
  clear h1
  cases h2 : inI a 1 100
  · obtain rfl : false = r := by rw [h2] at hr; simpa using hr
    have H2 := Lib.hid h2
    clear h2 hr
    go_enter Tryz.func45, Tryz.ntmps45
    go_wp2_with fail
    go_at_call 88; refine (HI.out _ HN.out _).mono ?_; rintro e w' ⟨rfl, x1, rfl⟩
    go_wp2_with fail
    go_at_call 54; refine (HV.out _ HB.out _ (HL.out.below (by (repeat (first | exact grow_refl _ | refine grow_ext _ ?_ | refine grow_alloc _ ?_ | refine grow_drew ?_)))) (HM.out.below (by (repeat (first | exact grow_refl _ | refine grow_ext _ ?_ | refine grow_alloc _ ?_ | refine grow_drew ?_))))).mono ?_; rintro e w' ⟨rfl, x2, rfl⟩
    go_wp2_with fail
    go_at_call 87; refine (within17_v _ _ _ _ H1.out _).mono ?_; rintro e w' ⟨rfl, x3, rfl⟩
    go_wp2_with fail
    go_at_call 87; refine (within17_v _ _ _ _ H2.out _).mono ?_; rintro e w' ⟨rfl, x4, rfl⟩
    go_wp2
    go_ret
    exact Ret.of (by (repeat (first | exact grow_refl _ | refine grow_ext _ ?_ | refine grow_alloc _ ?_ | refine grow_drew ?_)))
  have H2 := Lib.hid h2
  rw [h2, Bool.true_and] at hr
  clear h2
  have H3 := Lib.hid hr
  clear hr
  go_enter Tryz.func45, Tryz.ntmps45
  go_wp2_with fail
  go_at_call 88; refine (HI.out _ HN.out _).mono ?_; rintro e w' ⟨rfl, x1, rfl⟩
  go_wp2_with fail
  go_at_call 54; refine (HV.out _ HB.out _ (HL.out.below (by (repeat (first | exact grow_refl _ | refine grow_ext _ ?_ | refine grow_alloc _ ?_ | refine grow_drew ?_)))) (HM.out.below (by (repeat (first | exact grow_refl _ | refine grow_ext _ ?_ | refine grow_alloc _ ?_ | refine grow_drew ?_))))).mono ?_; rintro e w' ⟨rfl, x2, rfl⟩
  go_wp2_with fail
  go_at_call 87; refine (within17_v _ _ _ _ H1.out _).mono ?_; rintro e w' ⟨rfl, x3, rfl⟩
  go_wp2_with fail
  go_at_call 87; refine (within17_v _ _ _ _ H2.out _).mono ?_; rintro e w' ⟨rfl, x4, rfl⟩
  go_wp2_with fail
  go_at_call 87; refine (within17_v _ _ _ _ H3.out _).mono ?_; rintro e w' ⟨rfl, x5, rfl⟩
  go_wp2
  go_ret
  exact Ret.of (by (repeat (first | exact grow_refl _ | refine grow_ext _ ?_ | refine grow_alloc _ ?_ | refine grow_drew ?_)))

set_option maxHeartbeats 2000000 in
theorem refMember_v (s : ByteArray) (l m : List Bx) (u t : Value) (c a p : Int) (r : Bool) (hr : memberB s l m c a p = r) (hs : s.size ≤ 9223372036854775807) (w : World) (hl : Boxes w u l) (hm : Boxes w t m) :
    Calls Tryz.prog 20 #[.agg #[.string s, u, t, .int .i64 c, .int .i64 a, .int .i64 p]] w (Ret w (.bool r)) := by
  have HL := Lib.hid hl
  have HM := Lib.hid hm
  have HI := Lib.hid (fun r h w => refIsName_v s r h hs w)
  have HV := Lib.hid (fun r h w hl hm => refSolid_v l m u t r h w hl hm)
  clear hl hm
  unfold memberB at hr
  cases hn : nameB s
  · obtain rfl : false = r := by rw [hn] at hr; simpa using hr
    have HN := Lib.hid hn
    clear hn hr
    go_enter Tryz.func20, Tryz.ntmps20
    go_wp2_with fail
    go_at_call 48; refine (HI.out _ HN.out _).mono ?_; rintro e w' ⟨rfl, x1, rfl⟩
    go_wp2
    go_ret
    exact Ret.of (by (repeat (first | exact grow_refl _ | refine grow_ext _ ?_ | refine grow_alloc _ ?_ | refine grow_drew ?_)))
  have HN := Lib.hid hn
  rw [hn, Bool.true_and] at hr
  cases hb : solidB l m
  · obtain rfl : false = r := by rw [hb] at hr; simpa using hr
    have HB := Lib.hid hb
    clear hn hr hb
    go_enter Tryz.func20, Tryz.ntmps20
    go_wp2_with fail
    go_at_call 48; refine (HI.out _ HN.out _).mono ?_; rintro e w' ⟨rfl, x1, rfl⟩
    go_wp2_with fail
    go_at_call 49; refine (HV.out _ HB.out _ (HL.out.below (by (repeat (first | exact grow_refl _ | refine grow_ext _ ?_ | refine grow_alloc _ ?_ | refine grow_drew ?_)))) (HM.out.below (by (repeat (first | exact grow_refl _ | refine grow_ext _ ?_ | refine grow_alloc _ ?_ | refine grow_drew ?_))))).mono ?_; rintro e w' ⟨rfl, x2, rfl⟩
    go_wp2
    go_ret
    exact Ret.of (by (repeat (first | exact grow_refl _ | refine grow_ext _ ?_ | refine grow_alloc _ ?_ | refine grow_drew ?_)))
  have HB := Lib.hid hb
  rw [hb, Bool.true_and] at hr
  clear hn hb
  have HR := Lib.hid hr
  clear hr
  rcases Int.lt_or_le c 0 with k1 | k1
  · have d1 : decide (0 ≤ c) = false := by simp; omega
    obtain rfl : false = r := by
      have h := HR.out
      unfold inI at h
      rw [d1] at h
      simpa using h
    go_enter Tryz.func20, Tryz.ntmps20
    go_wp2_with fail
    go_at_call 48; refine (HI.out _ HN.out _).mono ?_; rintro e w' ⟨rfl, x1, rfl⟩
    go_wp2_with fail
    go_at_call 49; refine (HV.out _ HB.out _ (HL.out.below (by (repeat (first | exact grow_refl _ | refine grow_ext _ ?_ | refine grow_alloc _ ?_ | refine grow_drew ?_)))) (HM.out.below (by (repeat (first | exact grow_refl _ | refine grow_ext _ ?_ | refine grow_alloc _ ?_ | refine grow_drew ?_))))).mono ?_; rintro e w' ⟨rfl, x2, rfl⟩
    go_wp2
    go_ret
    exact Ret.of (by (repeat (first | exact grow_refl _ | refine grow_ext _ ?_ | refine grow_alloc _ ?_ | refine grow_drew ?_)))
  have d1 : decide (0 ≤ c) = true := by simp; omega
  obtain ⟨b2, d2⟩ : ∃ b, decide (c ≤ 200) = b := ⟨_, rfl⟩
  obtain ⟨b3, d3⟩ : ∃ b, decide (1 ≤ a) = b := ⟨_, rfl⟩
  obtain ⟨b4, d4⟩ : ∃ b, decide (a ≤ 100) = b := ⟨_, rfl⟩
  obtain ⟨b5, d5⟩ : ∃ b, decide (1 ≤ p) = b := ⟨_, rfl⟩
  obtain ⟨b6, d6⟩ : ∃ b, decide (p ≤ 200) = b := ⟨_, rfl⟩
  obtain rfl : (b2 && (b3 && b4 && (b5 && b6))) = r := by
    have h := HR.out
    unfold inI at h
    rw [d1, d2, d3, d4, d5, d6] at h
    simpa using h
  clear HR
  go_enter Tryz.func20, Tryz.ntmps20
  go_wp2_with fail
  go_at_call 48; refine (HI.out _ HN.out _).mono ?_; rintro e w' ⟨rfl, x1, rfl⟩
  go_wp2_with fail
  go_at_call 49; refine (HV.out _ HB.out _ (HL.out.below (by (repeat (first | exact grow_refl _ | refine grow_ext _ ?_ | refine grow_alloc _ ?_ | refine grow_drew ?_)))) (HM.out.below (by (repeat (first | exact grow_refl _ | refine grow_ext _ ?_ | refine grow_alloc _ ?_ | refine grow_drew ?_))))).mono ?_; rintro e w' ⟨rfl, x2, rfl⟩
  cases b2
  · go_wp2
    go_ret
    exact Ret.of (by (repeat (first | exact grow_refl _ | refine grow_ext _ ?_ | refine grow_alloc _ ?_ | refine grow_drew ?_)))
  cases b3
  · go_wp2
    go_ret
    exact Ret.of (by (repeat (first | exact grow_refl _ | refine grow_ext _ ?_ | refine grow_alloc _ ?_ | refine grow_drew ?_)))
  cases b4
  · go_wp2
    go_ret
    exact Ret.of (by (repeat (first | exact grow_refl _ | refine grow_ext _ ?_ | refine grow_alloc _ ?_ | refine grow_drew ?_)))
  cases b5
  · go_wp2
    go_ret
    exact Ret.of (by (repeat (first | exact grow_refl _ | refine grow_ext _ ?_ | refine grow_alloc _ ?_ | refine grow_drew ?_)))
  go_wp2
  go_ret
  exact Ret.of (by (repeat (first | exact grow_refl _ | refine grow_ext _ ?_ | refine grow_alloc _ ?_ | refine grow_drew ?_)))

end Go.Proofs.YtofjopdcbmaijaaGreat

namespace Go.Proofs.YtofjopdcbmaijaaGreat
open Go.RowKit
set_option maxRecDepth 20000

structure Mb where
  name : ByteArray
  l : List Bx
  m : List Bx
  u : Value
  t : Value
  cover : Int
  agg : Int
  poker : Int

/-- A member's name and boxes are there. -/
structure MbAt (w : World) (x : Mb) : Prop where
  name : x.name.size ≤ 9223372036854775807
  boxes : Boxes w x.u x.l
  holes : Boxes w x.t x.m
theorem MbAt.below {w w' : World} {x : Mb} (h : MbAt w x) (hb : Below w.heap.size w w') : MbAt w' x := ⟨h.name, h.boxes.below hb, h.holes.below hb⟩

end Go.Proofs.YtofjopdcbmaijaaGreat


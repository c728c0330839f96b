/- CoverParts: the walk of the law. -/
import Derived.Test.YtdldbdffaffjoaaLawCv
import Derived.RegionTactic
import Derived.Deep.DeepCutAuto
import Derived.Deep.CutBlock
namespace Go.Proofs.Ytdldbdffaffjoaa
open Go.RowKit

def partX (leg : Bx) (a b : Int) : Bx := ⟨leg.lx + a % (leg.hx - leg.lx + 1), leg.ly, leg.lz, leg.hx, leg.hy, leg.hz - b % (leg.hz - leg.lz + 1)⟩
theorem part_in {leg : Bx} {a b : Int} (h : validB leg = true) : (0 ≤ a % (leg.hx - leg.lx + 1) ∧ a % (leg.hx - leg.lx + 1) ≤ leg.hx - leg.lx) ∧ 0 ≤ b % (leg.hz - leg.lz + 1) ∧ b % (leg.hz - leg.lz + 1) ≤ leg.hz - leg.lz := by
  have hv := valid_iff.1 h
  have h1 := Int.emod_nonneg a (show leg.hx - leg.lx + 1 ≠ 0 by omega)
  have h2 := Int.emod_lt_of_pos a (show 0 < leg.hx - leg.lx + 1 by omega)
  have h3 := Int.emod_nonneg b (show leg.hz - leg.lz + 1 ≠ 0 by omega)
  have h4 := Int.emod_lt_of_pos b (show 0 < leg.hz - leg.lz + 1 by omega)
  omega
theorem part_valid {leg : Bx} {a b : Int} (h : validB leg = true) : validB (partX leg a b) = true := by
  have h1 := part_in (a := a) (b := b) h
  have hv := valid_iff.1 h
  rw [valid_iff]; unfold partX; dsimp only; omega
theorem part_cover {l m : List Bx} {d : Int} {leg : Bx} (a b : Int) (h : validB leg = true) (hd : sizeB d = true) : coverC l m (coreX d leg) ≤ coverC l m (coreX d (partX leg a b)) := by
  refine cover_sub (core_ord h hd) (core_ord (part_valid h) hd) ?_
  have h1 := part_in (a := a) (b := b) h
  have hv := valid_iff.1 h
  rw [contains_iff]; unfold coreX partX; simp only [grownX]; omega
theorem thin_cover {l m : List Bx} {d e : Int} {leg : Bx} (h : validB leg = true) (hd : sizeB d = true) (he : sizeB e = true) (hde : e ≤ d) : coverC l m (coreX d leg) ≤ coverC l m (coreX e leg) := by
  refine cover_sub (core_ord h hd) (core_ord h he) ?_
  have hv := valid_iff.1 h
  have h3 : halfI e ≤ halfI d := by unfold halfI; omega
  rw [contains_iff]; unfold coreX; simp only [grownX]; omega
theorem ofI_ok {q : Mb} {d : Int} {leg : Bx} (h : givenI q d leg = 0) : ofI q d leg = coverC q.l q.m (coreX d leg) := by unfold ofI; rw [if_pos h]
theorem given_part {q : Mb} {d : Int} {leg : Bx} (a b : Int) (h : givenI q d leg = 0) : givenI q d (partX leg a b) = 0 := by
  obtain ⟨h1, h2, h3⟩ := given_zero.1 h
  exact given_zero.2 ⟨h1, part_valid h2, h3⟩
theorem given_other {q : Mb} {d : Int} {leg : Bx} (e : Int) (h : givenI q d leg = 0) : (sizeB e = true ∧ givenI q e leg = 0) ∨ givenI q e leg = 11 := by
  obtain ⟨h1, h2, h3⟩ := given_zero.1 h
  unfold givenI
  rw [if_pos ⟨h1, h2⟩]
  cases sizeB e
  · right; rfl
  · left; exact ⟨rfl, rfl⟩

set_option maxRecDepth 100000 in
set_option maxHeartbeats 4000000 in
theorem lawCoverParts_c (q : Mb) (d e : Int) (leg : Bx) (qa qb : Int) (hdi : -9223372036854775808 ≤ d ∧ d ≤ 9223372036854775807) (hei : -9223372036854775808 ≤ e ∧ e ≤ 9223372036854775807) (ha : 0 ≤ qa ∧ qa ≤ 65535) (hb : 0 ≤ qb ∧ qb ≤ 65535) (w : World) (hq : MbAt w q) :
    Calls Try.prog 3 #[(.agg #[.string q.name, q.u, q.t, .int .i64 q.cover, .int .i64 q.agg, .int .i64 q.poker]), .int .i64 d, .int .i64 e, (.agg #[.int .i64 leg.lx, .int .i64 leg.ly, .int .i64 leg.lz, .int .i64 leg.hx, .int .i64 leg.hy, .int .i64 leg.hz]), .int .u16 qa, .int .u16 qb] w (Ret w (.bool true)) := by
  have HQ := Lib.hid hq
  clear hq
  cases hf : fewB q
  · have HF := Lib.hid hf
    clear hf
    go_enter Try.func3, Try.ntmps3
    go_wp2_with fail
    go_at_call 6; refine (awake18_c _).mono ?_; rintro e w' ⟨rfl, x0, rfl⟩
    go_wp2_with fail
    go_at_call 7; refine (few_v q _ HF.out _ (HQ.out.below (by (repeat (first | exact grow_refl _ | refine grow_ext _ ?_ | refine grow_alloc _ ?_ | refine grow_drew ?_))))).mono ?_; rintro e w' ⟨rfl, x1, rfl⟩
    go_wp2
    go_ret
    exact Ret.of (by (repeat (first | exact grow_refl _ | refine grow_ext _ ?_ | refine grow_alloc _ ?_ | refine grow_drew ?_)))
  have HF := Lib.hid hf
  clear hf
  have HO := Lib.hid (fun w hq => Of_c q d leg w hq)
  by_cases h0 : givenI q d leg = 0
  · obtain ⟨h1, h2, h3⟩ := given_zero.1 h0
    have HP := Lib.hid (fun w hq => Of_c q d (partX leg qa qb) w hq)
    have HE := Lib.hid (fun w hq => Of_c q e leg w hq)
    rw [ofI_ok (given_part qa qb h0), given_part qa qb h0] at HP
    rw [ofI_ok h0, h0] at HO
    have hk := part_cover (l := q.l) (m := q.m) qa qb h2 h3
    have hpi := part_in (a := qa) (b := qb) h2
    have hv := valid_iff.1 h2
    have hn : (ofI q e leg = ofI q e leg ∧ givenI q e leg = 11) ∨ (givenI q e leg = 0 ∧ (e ≤ d → coverC q.l q.m (coreX d leg) ≤ ofI q e leg)) := by
      rcases given_other e h0 with ⟨hs, hg⟩ | hg
      · exact Or.inr ⟨hg, fun hde => by rw [ofI_ok hg]; exact thin_cover h2 h3 hs hde⟩
      · exact Or.inl ⟨rfl, hg⟩
    generalize ofI q e leg = n at *
    generalize givenI q e leg = g at *
    generalize coverC q.l q.m (coreX d leg) = c at *
    generalize coverC q.l q.m (coreX d (partX leg qa qb)) = k at *
    have r1 : qa.tmod (leg.hx - leg.lx + 1) = qa % (leg.hx - leg.lx + 1) := Int.tmod_eq_emod_of_nonneg ha.1
    have r2 : qb.tmod (leg.hz - leg.lz + 1) = qb % (leg.hz - leg.lz + 1) := Int.tmod_eq_emod_of_nonneg hb.1
    have w1 : IntKind.i64.wrap qa = qa := IntWalk.i64_in _ (by omega)
    have w2 : IntKind.i64.wrap qb = qb := IntWalk.i64_in _ (by omega)
    have z1 : leg.hx - leg.lx + 1 ≠ 0 := by omega
    have z2 : leg.hz - leg.lz + 1 ≠ 0 := by omega
    have HN := Lib.hid hn
    have dk : decide (c ≤ k) = true := by simp; omega
    unfold partX at HP
    dsimp only at HP
    clear h0 h1 h2 h3 hn hk
    go_enter Try.func3, Try.ntmps3
    go_wp2_with fail
    go_at_call 6; refine (awake18_c _).mono ?_; rintro e w' ⟨rfl, x0, rfl⟩
    go_wp2_with fail
    go_at_call 7; refine (few_v q _ HF.out _ (HQ.out.below (by (repeat (first | exact grow_refl _ | refine grow_ext _ ?_ | refine grow_alloc _ ?_ | refine grow_drew ?_))))).mono ?_; rintro e w' ⟨rfl, x1, rfl⟩
    go_wp2_with fail
    go_at_call 8; refine (HO.out _ (HQ.out.below (by (repeat (first | exact grow_refl _ | refine grow_ext _ ?_ | refine grow_alloc _ ?_ | refine grow_drew ?_))))).mono ?_; rintro e w' ⟨rfl, x2, rfl⟩
    go_wp2_with fail
    go_region
    go_wp2_with fail
    go_region
    go_wp2_with fail
    go_at_call 8; refine (HP.out _ (HQ.out.below (by (repeat (first | exact grow_refl _ | refine grow_ext _ ?_ | refine grow_alloc _ ?_ | refine grow_drew ?_))))).mono ?_; rintro e w' ⟨rfl, x3, rfl⟩
    go_wp2_with fail
    go_at_call 8; refine (HE.out _ (HQ.out.below (by (repeat (first | exact grow_refl _ | refine grow_ext _ ?_ | refine grow_alloc _ ?_ | refine grow_drew ?_))))).mono ?_; rintro e w' ⟨rfl, x4, rfl⟩
    rcases HN.out with ⟨_, hg⟩ | ⟨hg, hn⟩
    · subst hg
      clear hpi hv r1 r2 w1 w2 z1 z2
      go_wp2
      go_ret
      exact Ret.of (by (repeat (first | exact grow_refl _ | refine grow_ext _ ?_ | refine grow_alloc _ ?_ | refine grow_drew ?_)))
    · subst hg
      clear hpi hv r1 r2 w1 w2 z1 z2
      by_cases hde : e ≤ d
      · have dn : decide (c ≤ n) = true := by have := hn hde; simp; omega
        have de : decide (d < e) = false := by simp; omega
        clear hn
        go_wp2
        go_ret
        exact Ret.of (by (repeat (first | exact grow_refl _ | refine grow_ext _ ?_ | refine grow_alloc _ ?_ | refine grow_drew ?_)))
      · have de : decide (d < e) = true := by simp; omega
        clear hn
        go_wp2
        go_ret
        exact Ret.of (by (repeat (first | exact grow_refl _ | refine grow_ext _ ?_ | refine grow_alloc _ ?_ | refine grow_drew ?_)))
  · have e0 : ofI q d leg = 0 := by unfold ofI; rw [if_neg h0]
    rw [e0] at HO
    clear e0
    generalize givenI q d leg = g at *
    have d1 : (g != 0) = true := by simpa using h0
    clear h0
    go_enter Try.func3, Try.ntmps3
    go_wp2_with fail
    go_at_call 6; refine (awake18_c _).mono ?_; rintro e w' ⟨rfl, x0, rfl⟩
    go_wp2_with fail
    go_at_call 7; refine (few_v q _ HF.out _ (HQ.out.below (by (repeat (first | exact grow_refl _ | refine grow_ext _ ?_ | refine grow_alloc _ ?_ | refine grow_drew ?_))))).mono ?_; rintro e w' ⟨rfl, x1, rfl⟩
    go_wp2_with fail
    go_at_call 8; refine (HO.out _ (HQ.out.below (by (repeat (first | exact grow_refl _ | refine grow_ext _ ?_ | refine grow_alloc _ ?_ | refine grow_drew ?_))))).mono ?_; rintro e w' ⟨rfl, x2, rfl⟩
    go_wp2
    go_ret
    exact Ret.of (by (repeat (first | exact grow_refl _ | refine grow_ext _ ?_ | refine grow_alloc _ ?_ | refine grow_drew ?_)))

end Go.Proofs.Ytdldbdffaffjoaa

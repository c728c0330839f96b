/- cover.of, given, Of. -/
import Derived.Test.YtdldbdffaffjoaaCovC
import Derived.Test.YtdldbdffaffjoaaMemA
namespace Go.Proofs.Ytdldbdffaffjoaa
open Go.RowKit

def halfI (d : Int) : Int := (d + 1) / 2
theorem halfD_in {d : Int} (h : sizeB d = true) : 3 ≤ halfI d ∧ halfI d ≤ 20 := by
  have := size_iff.1 h
  unfold halfI; omega
/-- The core of a leg, valid or not. -/
def coreX (d : Int) (leg : Bx) : Bx := grownX leg (halfI d)
theorem core_ord {d : Int} {leg : Bx} (h : validB leg = true) (hd : sizeB d = true) : Ordd (coreX d leg) := by
  have h1 := halfD_in hd
  have h2 := valid_iff.1 h
  unfold Ordd coreX; simp only [grownX]; omega
theorem coreR_ok {d : Int} {leg : Bx} (h : validB leg = true) (hd : sizeB d = true) : coreR d leg = if validB (coreX d leg) = true then (coreX d leg, true) else (zeroX, false) := by
  have h1 := halfD_in hd
  have e : ¬ (halfI d < 0 ∨ 1048576 < halfI d) := by omega
  unfold coreR grownR
  rw [if_pos hd, h]
  simp only [Bool.true_eq_false, if_false]
  rw [show (d + 1) / 2 = halfI d from rfl, if_neg e]
  unfold coreX
  cases validB (grownX leg (halfI d)) <;> rfl

set_option maxHeartbeats 1000000 in
theorem of_c (q : Mb) (d : Int) (leg : Bx) (r : Int) (hr : coverC q.l q.m (coreX d leg) = r) (hs : solidB q.l q.m = true) (h : validB leg = true) (hd : sizeB d = true) (w : World) (hq : MbAt w q) :
    Calls Try.prog 20 #[(.agg #[.string q.name, q.u, q.t, .int .i64 q.cover, .int .i64 q.agg, .int .i64 q.poker]), .int .i64 d, (.agg #[.int .i64 leg.lx, .int .i64 leg.ly, .int .i64 leg.lz, .int .i64 leg.hx, .int .i64 leg.hy, .int .i64 leg.hz])] w (Ret w (.int .i64 r)) := by
  have HC := Lib.hid (fun w => core_c d leg w)
  rw [coreR_ok h hd] at HC
  have HQ := Lib.hid hq
  have ho := core_ord h hd
  clear hq h hd
  cases hv : validB (coreX d leg)
  · obtain rfl : -1 = r := by
      rw [← hr, cover_none ho]
      have := held_ord hs ho
      rw [hv] at this
      simpa using this.symm
    rw [hv] at HC
    simp only [Bool.false_eq_true, if_false, zeroX] at HC
    clear hr ho
    go_enter Try.func20, Try.ntmps20
    go_wp2_with fail
    go_at_call 21; refine (HC.out _).mono ?_; rintro e w' ⟨rfl, x1, rfl⟩
    go_wp2
    go_ret
    exact Ret.of (by (repeat (first | exact grow_refl _ | refine grow_ext _ ?_ | refine grow_alloc _ ?_ | refine grow_drew ?_)))
  · rw [hv] at HC
    simp only [if_true] at HC
    have HG := Lib.hid (fun g w hq hg => greatest_a q (coreX d leg) r hr hs hv g w hq hg)
    generalize coreX d leg = b at *
    clear hr ho hv
    go_enter Try.func20, Try.ntmps20
    go_wp2_with fail
    go_at_call 21; refine (HC.out _).mono ?_; rintro e w' ⟨rfl, x1, rfl⟩
    go_wp2_with fail
    go_at_call 23; refine (HG.out _ _ (HQ.out.below (by (repeat (first | exact grow_refl _ | refine grow_ext _ ?_ | refine grow_alloc _ ?_ | refine grow_drew ?_)))) (by simp [BoxAt, go_sem])).mono ?_; rintro e w' ⟨rfl, x2, rfl⟩
    go_wp2
    go_ret
    exact Ret.of (by (repeat (first | exact grow_refl _ | refine grow_ext _ ?_ | refine grow_alloc _ ?_ | refine grow_drew ?_)))

def mbB (q : Mb) : Bool := memberB q.name q.l q.m q.cover q.agg q.poker
def givenI (q : Mb) (d : Int) (leg : Bx) : Int := if mbB q = true ∧ validB leg = true then (if sizeB d = true then 0 else 11) else 1
set_option maxHeartbeats 1000000 in
theorem given_c (q : Mb) (d : Int) (leg : Bx) (w : World) (hq : MbAt w q) : Calls Try.prog 19 #[(.agg #[.string q.name, q.u, q.t, .int .i64 q.cover, .int .i64 q.agg, .int .i64 q.poker]), .int .i64 d, (.agg #[.int .i64 leg.lx, .int .i64 leg.ly, .int .i64 leg.lz, .int .i64 leg.hx, .int .i64 leg.hy, .int .i64 leg.hz])] w (Ret w (.int .i64 (givenI q d leg))) := by
  have HQ := Lib.hid hq
  have HM := Lib.hid (fun r h w hs hl hm => solidMember_v q.name q.l q.m q.u q.t q.cover q.agg q.poker r h hs w hl hm)
  clear hq
  unfold givenI mbB
  cases hm : memberB q.name q.l q.m q.cover q.agg q.poker
  · have H1 := Lib.hid hm
    simp only [Bool.false_eq_true, false_and, if_false]
    clear hm
    go_enter Try.func19, Try.ntmps19
    go_wp2_with fail
    go_at_call 30; refine (HM.out _ H1.out _ HQ.out.name (HQ.out.boxes.below (by (repeat (first | exact grow_refl _ | refine grow_ext _ ?_ | refine grow_alloc _ ?_ | refine grow_drew ?_)))) (HQ.out.holes.below (by (repeat (first | exact grow_refl _ | refine grow_ext _ ?_ | refine grow_alloc _ ?_ | refine grow_drew ?_))))).mono ?_; rintro e w' ⟨rfl, x1, rfl⟩
    go_wp2
    go_ret
    exact Ret.of (by (repeat (first | exact grow_refl _ | refine grow_ext _ ?_ | refine grow_alloc _ ?_ | refine grow_drew ?_)))
  have H1 := Lib.hid hm
  clear hm
  cases hv : validB leg
  · have H2 := Lib.hid hv
    simp only [Bool.false_eq_true, and_false, if_false]
    clear hv
    go_enter Try.func19, Try.ntmps19
    go_wp2_with fail
    go_at_call 30; refine (HM.out _ H1.out _ HQ.out.name (HQ.out.boxes.below (by (repeat (first | exact grow_refl _ | refine grow_ext _ ?_ | refine grow_alloc _ ?_ | refine grow_drew ?_)))) (HQ.out.holes.below (by (repeat (first | exact grow_refl _ | refine grow_ext _ ?_ | refine grow_alloc _ ?_ | refine grow_drew ?_))))).mono ?_; rintro e w' ⟨rfl, x1, rfl⟩
    go_wp2_with fail
    go_at_call 31; refine (valid_v leg _ H2.out _).mono ?_; rintro e w' ⟨rfl, x2, rfl⟩
    go_wp2
    go_ret
    exact Ret.of (by (repeat (first | exact grow_refl _ | refine grow_ext _ ?_ | refine grow_alloc _ ?_ | refine grow_drew ?_)))
  have H2 := Lib.hid hv
  clear hv
  cases hd : sizeB d
  all_goals
    have H3 := Lib.hid hd
    simp only [Bool.false_eq_true, and_self, if_true, if_false]
    clear hd
    go_enter Try.func19, Try.ntmps19
    go_wp2_with fail
    go_at_call 30; refine (HM.out _ H1.out _ HQ.out.name (HQ.out.boxes.below (by (repeat (first | exact grow_refl _ | refine grow_ext _ ?_ | refine grow_alloc _ ?_ | refine grow_drew ?_)))) (HQ.out.holes.below (by (repeat (first | exact grow_refl _ | refine grow_ext _ ?_ | refine grow_alloc _ ?_ | refine grow_drew ?_))))).mono ?_; rintro e w' ⟨rfl, x1, rfl⟩
    go_wp2_with fail
    go_at_call 31; refine (valid_v leg _ H2.out _).mono ?_; rintro e w' ⟨rfl, x2, rfl⟩
    go_wp2_with fail
    go_at_call 32; refine (size_v d _ H3.out _).mono ?_; rintro e w' ⟨rfl, x3, rfl⟩
    go_wp2
    go_ret
    exact Ret.of (by (repeat (first | exact grow_refl _ | refine grow_ext _ ?_ | refine grow_alloc _ ?_ | refine grow_drew ?_)))

theorem given_zero {q : Mb} {d : Int} {leg : Bx} : givenI q d leg = 0 ↔ mbB q = true ∧ validB leg = true ∧ sizeB d = true := by
  unfold givenI
  by_cases h : mbB q = true ∧ validB leg = true
  · rw [if_pos h]
    by_cases h2 : sizeB d = true
    · rw [if_pos h2]; exact ⟨fun _ => ⟨h.1, h.2, h2⟩, fun _ => rfl⟩
    · rw [if_neg h2]; exact ⟨fun e => absurd e (by decide), fun e => absurd e.2.2 h2⟩
  · rw [if_neg h]; exact ⟨fun e => absurd e (by decide), fun e => absurd ⟨e.1, e.2.1⟩ h⟩
theorem mb_solid {q : Mb} (h : mbB q = true) : solidB q.l q.m = true := (member_iff.1 h).2.1
def ofI (q : Mb) (d : Int) (leg : Bx) : Int := if givenI q d leg = 0 then coverC q.l q.m (coreX d leg) else 0
set_option maxHeartbeats 1000000 in
theorem Of_c (q : Mb) (d : Int) (leg : Bx) (w : World) (hq : MbAt w q) :
    Calls Try.prog 8 #[(.agg #[.string q.name, q.u, q.t, .int .i64 q.cover, .int .i64 q.agg, .int .i64 q.poker]), .int .i64 d, (.agg #[.int .i64 leg.lx, .int .i64 leg.ly, .int .i64 leg.lz, .int .i64 leg.hx, .int .i64 leg.hy, .int .i64 leg.hz])] w (Ret w (.tuple #[.int .i64 (ofI q d leg), .int .i64 (givenI q d leg)])) := by
  have HG := Lib.hid (fun w hq => given_c q d leg w hq)
  have HQ := Lib.hid hq
  clear hq
  unfold ofI
  by_cases h0 : givenI q d leg = 0
  · obtain ⟨h1, h2, h3⟩ := given_zero.1 h0
    have HO := Lib.hid (fun w hq => of_c q d leg _ rfl (mb_solid h1) h2 h3 w hq)
    rw [if_pos h0, h0]
    rw [h0] at HG
    generalize coverC q.l q.m (coreX d leg) = c at *
    clear h0 h1 h2 h3
    go_enter Try.func8, Try.ntmps8
    go_wp2_with fail
    go_at_call 19; refine (HG.out _ (HQ.out.below (by (repeat (first | exact grow_refl _ | refine grow_ext _ ?_ | refine grow_alloc _ ?_ | refine grow_drew ?_))))).mono ?_; rintro e w' ⟨rfl, x1, rfl⟩
    go_wp2_with fail
    go_at_call 20; refine (HO.out _ (HQ.out.below (by (repeat (first | exact grow_refl _ | refine grow_ext _ ?_ | refine grow_alloc _ ?_ | refine grow_drew ?_))))).mono ?_; rintro e w' ⟨rfl, x2, rfl⟩
    go_wp2
    go_ret2
    exact Ret.of (by (repeat (first | exact grow_refl _ | refine grow_ext _ ?_ | refine grow_alloc _ ?_ | refine grow_drew ?_)))
  · rw [if_neg h0]
    generalize givenI q d leg = g at *
    have d1 : (g != 0) = true := by simpa using h0
    clear h0
    go_enter Try.func8, Try.ntmps8
    go_wp2_with fail
    go_at_call 19; refine (HG.out _ (HQ.out.below (by (repeat (first | exact grow_refl _ | refine grow_ext _ ?_ | refine grow_alloc _ ?_ | refine grow_drew ?_))))).mono ?_; rintro e w' ⟨rfl, x1, rfl⟩
    go_wp2
    go_ret2
    exact Ret.of (by (repeat (first | exact grow_refl _ | refine grow_ext _ ?_ | refine grow_alloc _ ?_ | refine grow_drew ?_)))

end Go.Proofs.Ytdldbdffaffjoaa

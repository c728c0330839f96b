/- Covers: what the laws' own functions answer; the example. -/
import Derived.Test.YtdldbdffaffjoaaCovE
import Derived.Test.YtdldbdffaffjoaaPlainK1
import Derived.Test.YtdldbdffaffjoaaSolK4
import Derived.Test.YtdldbdffaffjoaaArr6
namespace Go.Proofs.Ytdldbdffaffjoaa
open Go.RowKit
set_option maxRecDepth 20000

attribute [local go_sem] eq_arr6

theorem at18_c (x y z : Int) (w : World) : Calls Try.prog 11 #[.int .i64 x, .int .i64 y, .int .i64 z] w (Ret w (.agg #[.int .i64 x, .int .i64 y, .int .i64 z])) := by
  go_enter Try.func11, Try.ntmps11
  go_wp2
  refine bodyPost_ret (v := (.agg #[.int .i64 x, .int .i64 y, .int .i64 z])) (by simp [results, Try.results11, go_sem]) rfl ?_
  exact Ret.of (by (repeat (first | exact grow_refl _ | refine grow_ext _ ?_ | refine grow_alloc _ ?_ | refine grow_drew ?_)))

def exB : List Bx := [⟨0, 0, 0, 1000, 200, 300⟩]
def exQ (u : Value) : Mb := ⟨⟨#[109]⟩, exB, [], u, .slice none 0 0, 30, 16, 50⟩
def exL : Bx := ⟨50, 40, 60, 900, 40, 60⟩
theorem boxes_nil (w : World) : Boxes w (.slice none 0 0) [] := ⟨none, 0, rfl, Nat.le_refl _, by decide, fun i h => absurd h (Nat.not_lt_zero _)⟩
set_option maxHeartbeats 2000000 in
theorem example_c (w : World) : Calls Try.prog 16 #[] w (fun e W => ∃ g, e = .returned (.tuple #[.agg #[.string ⟨#[109]⟩, .slice (some ⟨g, 0, none⟩) 1 1, .slice none 0 0, .int .i64 30, .int .i64 16, .int .i64 50], .agg #[.int .i64 50, .int .i64 40, .int .i64 60, .int .i64 900, .int .i64 40, .int .i64 60]]) ∧ MbAt W (exQ (.slice (some ⟨g, 0, none⟩) 1 1)) ∧ ∃ x, W = ext w x) := by
  go_enter Try.func16, Try.ntmps16
  go_wp2_with fail
  go_at_call 11; refine (at18_c _ _ _ _).mono ?_; rintro e w' ⟨rfl, x1, rfl⟩
  go_wp2_with fail
  go_at_call 11; refine (at18_c _ _ _ _).mono ?_; rintro e w' ⟨rfl, x2, rfl⟩
  go_wp2_with fail
  go_at_call 11; refine (at18_c _ _ _ _).mono ?_; rintro e w' ⟨rfl, x3, rfl⟩
  go_wp2
  refine bodyPost_ret (v := .tuple #[.agg #[.string ⟨#[109]⟩, .slice (some ⟨w.heap.size + 1 + 1 + x1.heap.size, 0, none⟩) 1 1, .slice none 0 0, .int .i64 30, .int .i64 16, .int .i64 50], .agg #[.int .i64 50, .int .i64 40, .int .i64 60, .int .i64 900, .int .i64 40, .int .i64 60]]) (by simp [results, Try.results16, go_sem]) rfl ?_
  refine ⟨_, rfl, ⟨by show (1 : Nat) ≤ _; decide, ?_, boxes_nil _⟩, ext_of (by (repeat (first | exact grow_refl _ | refine grow_ext _ ?_ | refine grow_alloc _ ?_ | refine grow_drew ?_)))⟩
  exact Boxes.below (Boxes.of_own (base := 0) (l := exB) (own_lit _ _ _ _ _ (by simp [size_ext]) (Nat.zero_le _) (by decide) rfl rfl)) (grow_ext _ (grow_ext _ (grow_refl _)))

theorem ex_given (u : Value) : givenI (exQ u) 10 exL = 0 := given_zero.2 ⟨show memberB ⟨#[109]⟩ exB [] 30 16 50 = true by decide +kernel, by decide, by decide⟩
theorem ex_core : coreX 10 exL = ⟨45, 35, 55, 905, 45, 65⟩ := rfl
theorem ex_ord : Ordd ⟨45, 35, 55, 905, 45, 65⟩ := by unfold Ordd; decide
theorem ex_of (u : Value) : ofI (exQ u) 10 exL = 35 := by
  unfold ofI
  rw [if_pos (ex_given u), ex_core]
  exact cover_one (v := 35) ex_ord (by decide) (by decide) (by decide)
theorem ex_side (u : Value) : sideI (exQ u) 10 exL 0 = 45 ∧ sideI (exQ u) 10 exL 1 = 95 ∧ sideI (exQ u) 10 exL 2 = 35 ∧ sideI (exQ u) 10 exL 3 = 155 ∧ sideI (exQ u) 10 exL 4 = 55 ∧ sideI (exQ u) 10 exL 5 = 235 := by
  unfold sideI
  rw [if_pos (ex_given u), if_pos (ex_given u), if_pos (ex_given u), if_pos (ex_given u), if_pos (ex_given u), if_pos (ex_given u), ex_core]
  exact ⟨side_one (v := 45) 0 ex_ord (by decide) (by decide) (by decide), side_one (v := 95) 1 ex_ord (by decide) (by decide) (by decide), side_one (v := 35) 2 ex_ord (by decide) (by decide) (by decide),
    side_one (v := 155) 3 ex_ord (by decide) (by decide) (by decide), side_one (v := 55) 4 ex_ord (by decide) (by decide) (by decide), side_one (v := 235) 5 ex_ord (by decide) (by decide) (by decide)⟩

set_option maxRecDepth 100000 in
set_option maxHeartbeats 2000000 in
theorem awake18_c (w : World) : Calls Try.prog 6 #[] w (Ret w (.bool true)) := by
  have HO := Lib.hid (fun u w hq => Of_c (exQ u) 10 exL w hq)
  have HS := Lib.hid (fun u w hq => Sides_c (exQ u) 10 exL w hq)
  simp only [ex_of, ex_given, (ex_side _).1, (ex_side _).2.1, (ex_side _).2.2.1, (ex_side _).2.2.2.1, (ex_side _).2.2.2.2.1, (ex_side _).2.2.2.2.2] at HO HS
  go_enter Try.func6, Try.ntmps6
  go_wp2_with fail
  go_at_call 16; refine (example_c _).mono ?_; rintro e w' ⟨g, rfl, hq, x1, rfl⟩
  have HQ := Lib.hid hq
  clear hq
  go_wp2_with fail
  go_at_call 8; refine (HO.out _ _ (HQ.out.below (by (repeat (first | exact grow_refl _ | refine grow_ext _ ?_ | refine grow_alloc _ ?_ | refine grow_drew ?_))))).mono ?_; rintro e w' ⟨rfl, x2, rfl⟩
  go_wp2_with fail
  go_at_call 9; refine (HS.out _ _ (HQ.out.below (by (repeat (first | exact grow_refl _ | refine grow_ext _ ?_ | refine grow_alloc _ ?_ | refine grow_drew ?_))))).mono ?_; rintro e w' ⟨rfl, x3, rfl⟩
  go_wp2
  go_ret
  exact Ret.of (by (repeat (first | exact grow_refl _ | refine grow_ext _ ?_ | refine grow_alloc _ ?_ | refine grow_drew ?_)))

set_option maxHeartbeats 2000000 in
theorem smallNil_c (w : World) : Calls Try.prog 18 #[.slice none 0 0, .slice none 0 0, .int .i64 6, .int .i64 14] w (Ret w (.bool true)) := by
  go_enter Try.func18, Try.ntmps18
  go_wp2
  refine wp_loop_rounds 1 ?_
  rw [rounds_succ]
  go_wp2
  refine wp_loop_rounds 1 ?_
  rw [rounds_succ]
  go_wp2
  go_ret
  exact Ret.of (by (repeat (first | exact grow_refl _ | refine grow_ext _ ?_ | refine grow_alloc _ ?_ | refine grow_drew ?_)))

def fewB (q : Mb) : Bool := decide (q.name.size ≤ 60) && smallB q.l.length q.m.length 5
set_option maxHeartbeats 2000000 in
theorem few_v (q : Mb) (r : Bool) (h : fewB q = r) (w : World) (hq : MbAt w q) : Calls Try.prog 7 #[(.agg #[.string q.name, q.u, q.t, .int .i64 q.cover, .int .i64 q.agg, .int .i64 q.poker]), .slice none 0 0, .slice none 0 0] w (Ret w (.bool r)) := by
  have HQ := Lib.hid hq
  unfold fewB at h
  have hN := hq.name
  clear hq
  have HS := Lib.hid (fun r h w hl hm => refSmall_v q.l q.m q.u q.t 5 r h w hl hm)
  by_cases h1 : q.name.size ≤ 60
  · have d1 : decide ((q.name.size : Int) ≤ 60) = true := by simp; omega
    rw [decide_eq_true h1, Bool.true_and] at h
    have H := Lib.hid h
    clear h
    cases r
    · go_enter Try.func7, Try.ntmps7
      go_wp2_with fail
      go_at_call 17; refine (HS.out _ H.out _ (HQ.out.boxes.below (by (repeat (first | exact grow_refl _ | refine grow_ext _ ?_ | refine grow_alloc _ ?_ | refine grow_drew ?_)))) (HQ.out.holes.below (by (repeat (first | exact grow_refl _ | refine grow_ext _ ?_ | refine grow_alloc _ ?_ | refine grow_drew ?_))))).mono ?_; rintro e w' ⟨rfl, x1, rfl⟩
      go_wp2
      go_ret
      exact Ret.of (by (repeat (first | exact grow_refl _ | refine grow_ext _ ?_ | refine grow_alloc _ ?_ | refine grow_drew ?_)))
    · go_enter Try.func7, Try.ntmps7
      go_wp2_with fail
      go_at_call 17; refine (HS.out _ H.out _ (HQ.out.boxes.below (by (repeat (first | exact grow_refl _ | refine grow_ext _ ?_ | refine grow_alloc _ ?_ | refine grow_drew ?_)))) (HQ.out.holes.below (by (repeat (first | exact grow_refl _ | refine grow_ext _ ?_ | refine grow_alloc _ ?_ | refine grow_drew ?_))))).mono ?_; rintro e w' ⟨rfl, x1, rfl⟩
      go_wp2_with fail
      go_at_call 18; refine (smallNil_c _).mono ?_; rintro e w' ⟨rfl, x2, rfl⟩
      go_wp2
      go_ret
      exact Ret.of (by (repeat (first | exact grow_refl _ | refine grow_ext _ ?_ | refine grow_alloc _ ?_ | refine grow_drew ?_)))
  · have d1 : decide ((q.name.size : Int) ≤ 60) = false := by simp; omega
    rw [decide_eq_false h1, Bool.false_and] at h
    subst h
    go_enter Try.func7, Try.ntmps7
    go_wp2
    go_ret
    exact Ret.of (by (repeat (first | exact grow_refl _ | refine grow_ext _ ?_ | refine grow_alloc _ ?_ | refine grow_drew ?_)))

set_option maxHeartbeats 2000000 in
theorem heldL_c (q : Mb) (leg : Bx) (n : Int) (r : Bool) (hr : containsS q.l q.m (grownX leg n) = r) (hs : solidB q.l q.m = true) (hb : validB leg = true) (hn : 0 ≤ n) (w : World) (hq : MbAt w q) :
    Calls Try.prog 14 #[(.agg #[.string q.name, q.u, q.t, .int .i64 q.cover, .int .i64 q.agg, .int .i64 q.poker]), (.agg #[.int .i64 leg.lx, .int .i64 leg.ly, .int .i64 leg.lz, .int .i64 leg.hx, .int .i64 leg.hy, .int .i64 leg.hz]), .int .i64 n] w (Ret w (.bool r)) := by
  have HG := Lib.hid (fun w => Grown_c leg n w)
  have HQ := Lib.hid hq
  clear hq
  have hv := valid_iff.1 hb
  have ho : Ordd (grownX leg n) := by unfold Ordd; simp only [grownX]; omega
  have hh := held_ord hs ho
  rw [hr] at hh
  cases hg : validB (grownX leg n)
  · have e : grownR leg n = (zeroX, 2) := by unfold grownR; rw [hb, hg]; simp
    rw [e] at HG
    rw [hg, Bool.false_and] at hh
    subst hh
    dsimp only [zeroX] at HG
    clear hr ho hg e hb hv
    go_enter Try.func14, Try.ntmps14
    go_wp2_with fail
    go_at_call 27; refine (HG.out _).mono ?_; rintro e w' ⟨rfl, x1, rfl⟩
    go_wp2
    go_ret
    exact Ret.of (by (repeat (first | exact grow_refl _ | refine grow_ext _ ?_ | refine grow_alloc _ ?_ | refine grow_drew ?_)))
  · have hw := valid_iff.1 hg
    simp only [grownX] at hw
    have e : grownR leg n = (grownX leg n, 0) := by
      unfold grownR
      rw [hb, hg]
      rw [if_neg (by simp), if_neg (by omega), if_neg (by simp)]
    rw [e] at HG
    have HC := Lib.hid (fun w hl hm => solidContains_v q.l q.m q.u q.t (grownX leg n) (r, 0) (by unfold containsR17; rw [if_pos ⟨hs, hg⟩, hr]) w hl hm)
    generalize grownX leg n = G at *
    clear hr ho hg e hb hv hh hw
    go_enter Try.func14, Try.ntmps14
    go_wp2_with fail
    go_at_call 27; refine (HG.out _).mono ?_; rintro e w' ⟨rfl, x1, rfl⟩
    go_wp2_with fail
    go_at_call 28; refine (HC.out _ (HQ.out.boxes.below (by (repeat (first | exact grow_refl _ | refine grow_ext _ ?_ | refine grow_alloc _ ?_ | refine grow_drew ?_)))) (HQ.out.holes.below (by (repeat (first | exact grow_refl _ | refine grow_ext _ ?_ | refine grow_alloc _ ?_ | refine grow_drew ?_))))).mono ?_; rintro e w' ⟨rfl, x2, rfl⟩
    cases r
    all_goals
      go_wp2
      go_ret
      exact Ret.of (by (repeat (first | exact grow_refl _ | refine grow_ext _ ?_ | refine grow_alloc _ ?_ | refine grow_drew ?_)))

set_option maxRecDepth 100000 in
set_option maxHeartbeats 1000000 in
theorem minI_c (l : List Int) (c : Int) (v : Value) (h0 : l ≠ []) (hc : ∀ a ∈ l, c ≤ a) (w : World) (hl : Ints w v l) :
    Calls Try.prog 15 #[v] w (fun e W => ∃ m, e = .returned (.int .i64 m) ∧ c ≤ m ∧ ∃ x, W = ext w x) := by
  obtain ⟨b, off, cap, rfl, h2, h3, h4⟩ := hl
  have hn : l.length ≤ 9223372036854775807 := by omega
  have hp : 0 < l.length := List.length_pos_iff.2 h0
  have q0 : decide ((l.length : Int) < 1) = false := by simp; omega
  have c0 := h4 0 hp
  have H4 := Lib.hid h4
  have HC := Lib.hid (fun k (hk : k < l.length) => hc _ (List.getElem_mem hk))
  clear h4 hc h0
  rw [Nat.add_zero] at c0
  go_enter Try.func15, Try.ntmps15
  go_wp2
  go_loopw [4, 3] (fun i mm wr => ∃ (k : Nat) (m : Int), 1 ≤ k ∧ k ≤ l.length ∧ i = .int .i64 k ∧ mm = .int .i64 m ∧ c ≤ m ∧ ∃ x, wr = ext w x) (fun i _ _ => l.length - (intOf i).toNat)
  case atStart => exact ⟨1, _, Nat.le_refl _, hp, rfl, rfl, HC.out 0 hp, ext_of (Below.refl _ _)⟩
  case round =>
    obtain ⟨k, m, k1, k2, rfl, rfl, hm, x, rfl⟩ := hrel
    by_cases hlt : k < l.length
    · have e1 := H4.out k hlt
      have e2 := HC.out k hlt
      have q1 : (0 : Int) ≤ (k : Int) := by omega
      have q2 : (k : Int) < (l.length : Int) := by omega
      generalize l[k] = a at *
      go_wp2
      go_roundw
      case rel => exact ⟨k + 1, _, by omega, by omega, by go_num, rfl, by omega, ext_of (by (repeat (first | exact grow_refl _ | refine grow_ext _ ?_ | refine grow_alloc _ ?_ | refine grow_drew ?_)))⟩
      case measure => simp [intOf]; omega
    · go_wp2
      refine bodyPost_ret (v := .int .i64 m) (by simp [results, Try.results15, go_sem]) rfl ?_
      exact ⟨m, rfl, hm, ext_of (by (repeat (first | exact grow_refl _ | refine grow_ext _ ?_ | refine grow_alloc _ ?_ | refine grow_drew ?_)))⟩

end Go.Proofs.Ytdldbdffaffjoaa

/- BoxForms: the walk of the law. -/
import Derived.Test.YtmmhplmomahfhaaAwake
import Derived.Test.YtmmhplmomahfhaaRefD
import Derived.Test.YtmmhplmomahfhaaHull
import Derived.Test.YtmmhplmomahfhaaLawFns
import Derived.Deep.DeepCutAuto
import Derived.Deep.CutBlock
namespace Go.Proofs.Ytmmhplmomahfhaa
open Go.RowKit

theorem refValid_v (b : Bx) (r : Bool) (h : validB b = r) (w : World) : Calls Try.prog 14 #[(.agg #[.int .i64 b.lx, .int .i64 b.ly, .int .i64 b.lz, .int .i64 b.hx, .int .i64 b.hy, .int .i64 b.hz])] w (Ret w (.bool r)) := by subst h; exact refValid_c b w
theorem world_mask {G : World → Prop} (P : World → Prop) (w : World) (hp : P w) (h : ∀ W1, P W1 → G W1) : G w := h w hp

theorem Grown_w (a : Bx) (n : Int) (r : Bx × Int) (h : grownR a n = r) (w : World) : Calls Try.prog 30 #[(.agg #[.int .i64 a.lx, .int .i64 a.ly, .int .i64 a.lz, .int .i64 a.hx, .int .i64 a.hy, .int .i64 a.hz]), .int .i64 n] w (Ret w (.tuple #[(.agg #[.int .i64 r.1.lx, .int .i64 r.1.ly, .int .i64 r.1.lz, .int .i64 r.1.hx, .int .i64 r.1.hy, .int .i64 r.1.hz]), .int .i64 r.2])) := by subst h; exact Grown_c a n w
theorem Hull_w (l : List Bx) (v : Value) (r : Bx × Int) (h : hullR l = r) (w : World) (hl : Boxes w v l) : Calls Try.prog 32 #[v] w (Ret w (.tuple #[(.agg #[.int .i64 r.1.lx, .int .i64 r.1.ly, .int .i64 r.1.lz, .int .i64 r.1.hx, .int .i64 r.1.hy, .int .i64 r.1.hz]), .int .i64 r.2])) := by subst h; exact Hull_c l v w hl
theorem Meet_w (a b : Bx) (r : Bx × Int) (h : meetR a b = r) (w : World) : Calls Try.prog 31 #[(.agg #[.int .i64 a.lx, .int .i64 a.ly, .int .i64 a.lz, .int .i64 a.hx, .int .i64 a.hy, .int .i64 a.hz]), (.agg #[.int .i64 b.lx, .int .i64 b.ly, .int .i64 b.lz, .int .i64 b.hx, .int .i64 b.hy, .int .i64 b.hz])] w (Ret w (.tuple #[(.agg #[.int .i64 r.1.lx, .int .i64 r.1.ly, .int .i64 r.1.lz, .int .i64 r.1.hx, .int .i64 r.1.hy, .int .i64 r.1.hz]), .int .i64 r.2])) := by subst h; exact Meet_c a b w
theorem meet_same {a b : Bx} (ha : validB a = true) (hb : validB b = true) : validB (meetX a b) = meetB a b := by
  have h1 := valid_iff.1 ha
  have h2 := valid_iff.1 hb
  cases h : meetB a b
  · cases g : validB (meetX a b)
    · rfl
    · have := valid_iff.1 g
      unfold meetX at this
      simp only at this
      have : meetB a b = true := meetB_iff.2 (by omega)
      rw [h] at this; cases this
  · have := meetB_iff.1 h
    rw [valid_iff]
    unfold meetX
    simp only
    omega
def containsR (a b : Bx) : Bool × Int := if validB a = true ∧ validB b = true then (containsB a b, 0) else (false, 1)
theorem Contains_w (a b : Bx) (r : Bool × Int) (h : containsR a b = r) (w : World) : Calls Try.prog 23 #[(.agg #[.int .i64 a.lx, .int .i64 a.ly, .int .i64 a.lz, .int .i64 a.hx, .int .i64 a.hy, .int .i64 a.hz]), (.agg #[.int .i64 b.lx, .int .i64 b.ly, .int .i64 b.lz, .int .i64 b.hx, .int .i64 b.hy, .int .i64 b.hz])] w (Ret w (.tuple #[.bool r.1, .int .i64 r.2])) := by
  subst h
  unfold containsR
  split
  · rename_i h; exact Contains_ok a b h.1 h.2 w
  · rename_i h; exact Contains_err a b h w

set_option maxRecDepth 100000 in
set_option maxHeartbeats 4000000 in
theorem lawBoxForms_ok (a b : Bx) (n : Int) (l : List Bx) (v : Value) (hn : -9223372036854775808 ≤ n ∧ n ≤ 9223372036854775807) (w : World) (hl : Boxes w v l) (hm : manyB l.length = false) :
    Calls Try.prog 9 #[(.agg #[.int .i64 a.lx, .int .i64 a.ly, .int .i64 a.lz, .int .i64 a.hx, .int .i64 a.hy, .int .i64 a.hz]), (.agg #[.int .i64 b.lx, .int .i64 b.ly, .int .i64 b.lz, .int .i64 b.hx, .int .i64 b.hy, .int .i64 b.hz]), .int .i64 n, v] w (Ret w (.bool true)) := by
  obtain ⟨av, capv, rfl, hcap, hcap2, _⟩ := hl.shape
  have HL := Lib.hid hl
  have HM := Lib.hid hm
  clear hl hm
  obtain ⟨g, HG⟩ : ∃ g, Hid (grownR a n = g) := ⟨_, Lib.hid rfl⟩
  obtain ⟨h, HH⟩ : ∃ g, Hid (hullR l = g) := ⟨_, Lib.hid rfl⟩
  obtain ⟨m, HT⟩ : ∃ g, Hid (meetR a b = g) := ⟨_, Lib.hid rfl⟩
  obtain ⟨c, HC⟩ : ∃ g, Hid (containsR a b = g) := ⟨_, Lib.hid rfl⟩
  obtain ⟨g, ge⟩ := g
  obtain ⟨h, he⟩ := h
  obtain ⟨m, me⟩ := m
  obtain ⟨c, ce⟩ := c
  go_enter Try.func9, Try.ntmps9
  go_wp2_with fail
  go_at_call 10; refine (awake_c _).mono ?_; rintro e w' ⟨rfl, x1, rfl⟩
  go_wp2_with fail
  go_at_call 18; refine (many_c l _ _ (HL.out.below (by (repeat (first | exact grow_refl _ | refine grow_ext _ ?_ | refine grow_alloc _ ?_ | refine grow_drew ?_))))).mono ?_; rintro e w' ⟨rfl, x2, rfl⟩
  rw [HM.out]
  go_wp2_with fail
  go_at_call 30; refine (Grown_w a n _ HG.out _).mono ?_; rintro e w' ⟨rfl, x3, rfl⟩
  dsimp only
  go_wp2_with fail
  go_at_call 32; refine (Hull_w l _ _ HH.out _ (HL.out.below (by (repeat (first | exact grow_refl _ | refine grow_ext _ ?_ | refine grow_alloc _ ?_ | refine grow_drew ?_))))).mono ?_; rintro e w' ⟨rfl, x4, rfl⟩
  dsimp only
  go_wp2_with fail
  go_at_call 31; refine (Meet_w a b _ HT.out _).mono ?_; rintro e w' ⟨rfl, x5, rfl⟩
  dsimp only
  go_wp2_with fail
  go_at_call 23; refine (Contains_w a b _ HC.out _).mono ?_; rintro e w' ⟨rfl, x6, rfl⟩
  dsimp only
  go_upto_block 0 with fail
  obtain ⟨p, hp⟩ : ∃ p, p = w.heap.size + 1 + 1 + x1.heap.size + x2.heap.size + x3.heap.size := ⟨_, rfl⟩
  obtain ⟨q, hq⟩ : ∃ q, q = p + 1 + x4.heap.size := ⟨_, rfl⟩
  obtain ⟨r, hr⟩ : ∃ r, r = q + 1 + x5.heap.size := ⟨_, rfl⟩
  obtain ⟨s, hs⟩ : ∃ s, s = r + 1 + x6.heap.size := ⟨_, rfl⟩
  rw [← hp, ← hq, ← hr, ← hs]
  refine world_mask (fun W => Below w.heap.size w W ∧ BoxAt W w.heap.size 0 a ∧ BoxAt W (w.heap.size + 1) 0 b ∧ BoxAt W p 0 g ∧ BoxAt W q 0 h ∧ BoxAt W r 0 m ∧ BoxAt W s 0 zeroX) _ ?_ ?_
  · refine ⟨by (repeat (first | exact grow_refl _ | refine grow_ext _ ?_ | refine grow_alloc _ ?_ | refine grow_drew ?_)), ?_, ?_, ?_, ?_, ?_, ?_⟩
    all_goals
      subst hs hr hq hp
      simp [BoxAt, go_sem, zeroX]
  clear hs hr hq hp x1 x2 x3 x4 x5 x6
  rintro W1 ⟨hB, ⟨a0, a1, a2, a3, a4, a5⟩, ⟨b0, b1, b2, b3, b4, b5⟩, ⟨g0, g1, g2, g3, g4, g5⟩, ⟨h0, h1, h2, h3, h4, h5⟩, ⟨m0, m1, m2, m3, m4, m5⟩, ⟨z0, z1, z2, z3, z4, z5⟩⟩
  have HB := Lib.hid hB
  clear hB
  go_cut [] (fun wx => ∃ x, wx = ext W1 x)
  case first =>
    go_wp2_with fail
    go_at_call 20; refine (refAll_c l _ _ (HL.out.below (HB.out.trans ((grow_refl W1).mono HB.out.size)))).mono ?_; rintro e w' ⟨rfl, x, rfl⟩
    cases hall : l.all validB
    · have hr := HH.out
      unfold hullR at hr
      rw [hall] at hr
      simp only [Bool.false_eq_true, if_false, Prod.mk.injEq] at hr
      obtain ⟨rfl, rfl⟩ := hr
      dsimp only [zeroX] at h0 h1 h2 h3 h4 h5 z0 z1 z2 z3 z4 z5
      go_wp2
      go_meet
      exact ⟨_, rfl⟩
    · by_cases hz : l.length = 0
      · have hr := HH.out
        unfold hullR at hr
        rw [hall, if_pos rfl, if_neg (by omega)] at hr
        simp only [Prod.mk.injEq] at hr
        obtain ⟨rfl, rfl⟩ := hr
        dsimp only [zeroX] at h0 h1 h2 h3 h4 h5 z0 z1 z2 z3 z4 z5
        have hb0 : (((l.length : Nat) : Int) == 0) = true := by simp [hz]
        have HZ := Lib.hid hz
        clear hz
        go_wp2
        go_meet
        exact ⟨_, rfl⟩
      · have hr := HH.out
        unfold hullR at hr
        rw [hall, if_pos rfl, if_pos (by omega)] at hr
        simp only [Prod.mk.injEq] at hr
        obtain ⟨rfl, rfl⟩ := hr
        have hb0 : (((l.length : Nat) : Int) == 0) = false := beq_eq_false_iff_ne.2 (by omega)
        have HZ := Lib.hid hz
        clear hz
        go_wp2_with fail
        refine wp_region_grows (by kernel_rfl) (by kernel_rfl) ?_
        repeat (go_big_quiet_step ((go_at_call 33; exact Calls.quiet_ext (refHull_c l _ _ (HL.out.below (by (repeat (first | exact grow_refl _ | exact HB.out | refine grow_ext _ ?_ | refine grow_alloc _ ?_ | refine grow_drew ?_)))) (by have := HZ.out; omega)))))
        refine wpQuiet_nil ?_; rintro _ ⟨xq, rfl⟩
        go_wp2
        go_meet
        exact ⟨_, by rw [ext_ext]⟩
  case rest =>
    obtain ⟨x, rfl⟩ := hcut
    go_upto_region 18 with fail
    go_cut [89] (fun s wx => s = .bool false ∧ ∃ x, wx = ext W1 x)
    case first =>
      cases ha : validB a <;> cases hb : validB b
      all_goals
        refine wp_region_grows (by kernel_rfl) (by kernel_rfl) ?_
        repeat (go_big_quiet_step (first
          | (go_at_call_of 22 ((Value.agg #[.int .i64 a.lx, .int .i64 a.ly, .int .i64 a.lz, .int .i64 a.hx, .int .i64 a.hy, .int .i64 a.hz])); exact Calls.quiet_ext (valid_v a _ ha _))
          | (go_at_call_of 22 ((Value.agg #[.int .i64 b.lx, .int .i64 b.ly, .int .i64 b.lz, .int .i64 b.hx, .int .i64 b.hy, .int .i64 b.hz])); exact Calls.quiet_ext (valid_v b _ hb _))
          | (go_at_call_of 14 ((Value.agg #[.int .i64 a.lx, .int .i64 a.ly, .int .i64 a.lz, .int .i64 a.hx, .int .i64 a.hy, .int .i64 a.hz])); exact Calls.quiet_ext (refValid_v a _ ha _))
          | (go_at_call_of 14 ((Value.agg #[.int .i64 b.lx, .int .i64 b.ly, .int .i64 b.lz, .int .i64 b.hx, .int .i64 b.hy, .int .i64 b.hz])); exact Calls.quiet_ext (refValid_v b _ hb _))))
        refine wpQuiet_nil ?_; rintro _ ⟨xq, rfl⟩
        go_wp2_with fail
        go_meet
        exact ⟨rfl, _, by rw [ext_ext]⟩
    case rest =>
      obtain ⟨rfl, x, rfl⟩ := hcut
      go_upto_block 1 with fail
      go_cut [] (fun wx => ∃ x, wx = ext W1 x)
      case first =>
        cases ha : validB a
        · have hr := HG.out
          unfold grownR at hr
          rw [ha, if_pos rfl] at hr
          simp only [Prod.mk.injEq] at hr
          obtain ⟨rfl, rfl⟩ := hr
          dsimp only [zeroX] at g0 g1 g2 g3 g4 g5 z0 z1 z2 z3 z4 z5
          go_wp2_with fail
          go_at_call 14; refine (refValid_v a _ ha _).mono ?_; rintro e w' ⟨rfl, x, rfl⟩
          go_wp2
          go_meet
          exact ⟨_, by rw [ext_ext]⟩
        · have kb := Bd.of_valid ha
          by_cases hr0 : n < 0 ∨ 1048576 < n
          · have hr := HG.out
            unfold grownR at hr
            rw [ha, if_neg (by simp), if_pos hr0] at hr
            simp only [Prod.mk.injEq] at hr
            obtain ⟨rfl, rfl⟩ := hr
            dsimp only [zeroX] at g0 g1 g2 g3 g4 g5 z0 z1 z2 z3 z4 z5
            rcases hr0 with hr0 | hr0
            all_goals
              go_wp2_with fail
              go_at_call 14; refine (refValid_v a _ ha _).mono ?_; rintro e w' ⟨rfl, x, rfl⟩
              go_wp2
              go_meet
              exact ⟨_, by rw [ext_ext]⟩
          · have hr1 : 0 ≤ n ∧ n ≤ 1048576 := by omega
            clear hn
            have HR1 := Lib.hid hr1
            have KB := Lib.hid kb
            have hr := HG.out
            unfold grownR at hr
            rw [ha, if_neg (by simp), if_neg hr0] at hr
            clear hr0 kb
            cases hgv : validB (grownX a n)
            · rw [hgv, if_pos rfl] at hr
              simp only [Prod.mk.injEq] at hr
              obtain ⟨rfl, rfl⟩ := hr
              dsimp only [zeroX] at g0 g1 g2 g3 g4 g5 z0 z1 z2 z3 z4 z5
              go_wp2_with fail
              go_at_call 14; refine (refValid_v a _ ha _).mono ?_; rintro e w' ⟨rfl, x, rfl⟩
              go_wp2_with fail
              go_at_call 34; refine (refGrown_c a n KB.out HR1.out _).mono ?_; rintro e w' ⟨rfl, x, rfl⟩
              go_wp2_with fail
              go_at_call 14; refine (refValid_v (grownX a n) _ hgv _).mono ?_; rintro e w' ⟨rfl, x, rfl⟩
              go_wp2
              go_meet
              exact ⟨_, by rw [ext_ext, ext_ext, ext_ext]⟩
            · rw [hgv, if_neg (by simp)] at hr
              simp only [Prod.mk.injEq] at hr
              obtain ⟨rfl, rfl⟩ := hr
              go_wp2_with fail
              go_at_call 14; refine (refValid_v a _ ha _).mono ?_; rintro e w' ⟨rfl, x, rfl⟩
              go_wp2_with fail
              go_at_call 34; refine (refGrown_c a n KB.out HR1.out _).mono ?_; rintro e w' ⟨rfl, x, rfl⟩
              go_wp2_with fail
              go_at_call 14; refine (refValid_v (grownX a n) _ hgv _).mono ?_; rintro e w' ⟨rfl, x, rfl⟩
              go_wp2_with fail
              refine wp_region_grows (by kernel_rfl) (by kernel_rfl) ?_
              repeat (go_big_quiet_step ((go_at_call 34; exact Calls.quiet_ext (refGrown_c a n KB.out HR1.out _))))
              refine wpQuiet_nil ?_; rintro _ ⟨xq, rfl⟩
              go_wp2
              go_meet
              exact ⟨_, by rw [ext_ext, ext_ext, ext_ext, ext_ext]⟩
      case rest =>
        obtain ⟨x, rfl⟩ := hcut
        clear g0 g1 g2 g3 g4 g5 h0 h1 h2 h3 h4 h5
        cases ha : validB a
        · have hr := HT.out
          have hc := HC.out
          unfold meetR at hr
          unfold containsR at hc
          rw [ha] at hr hc
          simp only [Bool.false_eq_true, false_and, if_false, Prod.mk.injEq] at hr hc
          obtain ⟨rfl, rfl⟩ := hr
          obtain ⟨rfl, rfl⟩ := hc
          dsimp only [zeroX] at m0 m1 m2 m3 m4 m5 z0 z1 z2 z3 z4 z5
          go_wp2_with fail
          go_at_call 14; refine (refValid_v a _ ha _).mono ?_; rintro e w' ⟨rfl, x, rfl⟩
          go_wp2
          go_ret
          exact Ret.of (by (repeat (first | exact grow_refl _ | exact HB.out | refine grow_ext _ ?_ | refine grow_alloc _ ?_ | refine grow_drew ?_)))
        · cases hb : validB b
          · have hr := HT.out
            have hc := HC.out
            unfold meetR at hr
            unfold containsR at hc
            rw [hb] at hr hc
            simp only [Bool.false_eq_true, and_false, if_false, Prod.mk.injEq] at hr hc
            obtain ⟨rfl, rfl⟩ := hr
            obtain ⟨rfl, rfl⟩ := hc
            dsimp only [zeroX] at m0 m1 m2 m3 m4 m5 z0 z1 z2 z3 z4 z5
            go_wp2_with fail
            go_at_call 14; refine (refValid_v a _ ha _).mono ?_; rintro e w' ⟨rfl, x, rfl⟩
            go_wp2_with fail
            go_at_call 14; refine (refValid_v b _ hb _).mono ?_; rintro e w' ⟨rfl, x, rfl⟩
            go_wp2
            go_ret
            exact Ret.of (by (repeat (first | exact grow_refl _ | exact HB.out | refine grow_ext _ ?_ | refine grow_alloc _ ?_ | refine grow_drew ?_)))
          · have hr := HT.out
            have hc := HC.out
            unfold meetR at hr
            unfold containsR at hc
            rw [ha, hb] at hr hc
            simp only [and_self, if_true, Prod.mk.injEq] at hr hc
            obtain ⟨rfl, rfl⟩ := hc
            have hmv := meet_same ha hb
            have OB := Lib.hid (Ord.of_valid hb)
            cases hmb : meetB a b
            · rw [hmv, hmb] at hr
              simp only [Bool.false_eq_true, if_false, Prod.mk.injEq] at hr
              obtain ⟨rfl, rfl⟩ := hr
              have HV := Lib.hid (show refMeetV a b = .tuple #[(.agg #[.int .i64 0, .int .i64 0, .int .i64 0, .int .i64 0, .int .i64 0, .int .i64 0]), .bool false] by unfold refMeetV; rw [hmb]; rfl)
              clear hmv hmb
              dsimp only [zeroX] at m0 m1 m2 m3 m4 m5 z0 z1 z2 z3 z4 z5
              go_wp2_with fail
              go_at_call 14; refine (refValid_v a _ ha _).mono ?_; rintro e w' ⟨rfl, x, rfl⟩
              go_wp2_with fail
              go_at_call 14; refine (refValid_v b _ hb _).mono ?_; rintro e w' ⟨rfl, x, rfl⟩
              go_wp2_with fail
              go_at_call 35; refine (refMeet_c a b _).mono ?_; rintro e w' ⟨rfl, x, rfl⟩
              rw [HV.out]
              go_wp2_with fail
              go_at_call 36; refine (refContains_c a b OB.out _).mono ?_; rintro e w' ⟨rfl, x, rfl⟩
              go_wp2
              go_ret
              exact Ret.of (by (repeat (first | exact grow_refl _ | exact HB.out | refine grow_ext _ ?_ | refine grow_alloc _ ?_ | refine grow_drew ?_)))
            · rw [hmv, hmb] at hr
              simp only [if_true, Prod.mk.injEq] at hr
              obtain ⟨rfl, rfl⟩ := hr
              have HV := Lib.hid (show refMeetV a b = .tuple #[(.agg #[.int .i64 (meetX a b).lx, .int .i64 (meetX a b).ly, .int .i64 (meetX a b).lz, .int .i64 (meetX a b).hx, .int .i64 (meetX a b).hy, .int .i64 (meetX a b).hz]), .bool true] by unfold refMeetV; rw [hmb]; rfl)
              clear hmv hmb
              go_wp2_with fail
              go_at_call 14; refine (refValid_v a _ ha _).mono ?_; rintro e w' ⟨rfl, x, rfl⟩
              go_wp2_with fail
              go_at_call 14; refine (refValid_v b _ hb _).mono ?_; rintro e w' ⟨rfl, x, rfl⟩
              go_wp2_with fail
              go_at_call 35; refine (refMeet_c a b _).mono ?_; rintro e w' ⟨rfl, x, rfl⟩
              rw [HV.out]
              go_wp2_with fail
              go_at_call 36; refine (refContains_c a b OB.out _).mono ?_; rintro e w' ⟨rfl, x, rfl⟩
              go_wp2
              go_ret
              exact Ret.of (by (repeat (first | exact grow_refl _ | exact HB.out | refine grow_ext _ ?_ | refine grow_alloc _ ?_ | refine grow_drew ?_)))

set_option maxRecDepth 100000 in
set_option maxHeartbeats 1000000 in
theorem lawBoxForms_c (a b : Bx) (n : Int) (l : List Bx) (v : Value) (hn : -9223372036854775808 ≤ n ∧ n ≤ 9223372036854775807) (w : World) (hl : Boxes w v l) :
    Calls Try.prog 9 #[(.agg #[.int .i64 a.lx, .int .i64 a.ly, .int .i64 a.lz, .int .i64 a.hx, .int .i64 a.hy, .int .i64 a.hz]), (.agg #[.int .i64 b.lx, .int .i64 b.ly, .int .i64 b.lz, .int .i64 b.hx, .int .i64 b.hy, .int .i64 b.hz]), .int .i64 n, v] w (Ret w (.bool true)) := by
  cases hm : manyB l.length
  · exact lawBoxForms_ok a b n l v hn w hl hm
  · have HL := Lib.hid hl
    have HM := Lib.hid hm
    clear hl hm
    go_enter Try.func9, Try.ntmps9
    go_wp2_with fail
    go_at_call 10; refine (awake_c _).mono ?_; rintro e w' ⟨rfl, x, rfl⟩
    go_wp2_with fail
    go_at_call 18; refine (many_c l _ _ (HL.out.below (by (repeat (first | exact grow_refl _ | refine grow_ext _ ?_ | refine grow_alloc _ ?_ | refine grow_drew ?_))))).mono ?_; rintro e w' ⟨rfl, x, rfl⟩
    rw [HM.out]
    go_wp2
    go_ret
    exact Ret.of (by (repeat (first | exact grow_refl _ | refine grow_ext _ ?_ | refine grow_alloc _ ?_ | refine grow_drew ?_)))

end Go.Proofs.Ytmmhplmomahfhaa

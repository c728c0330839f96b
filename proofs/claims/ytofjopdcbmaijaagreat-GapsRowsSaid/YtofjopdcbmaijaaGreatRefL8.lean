/- A run is right, by the reference: stirrupref16.run. -/
import Derived.Test.YtofjopdcbmaijaaGreatRefLK2
import Derived.Test.YtofjopdcbmaijaaGreatLaidK3
import Derived.Test.YtofjopdcbmaijaaGreatMid
namespace Go.Proofs.YtofjopdcbmaijaaGreat
open Go.RowKit
set_option maxRecDepth 20000

set_option maxRecDepth 100000 in
set_option maxHeartbeats 4000000 in
theorem refRun_v (l : List Br) (v : Value) (r : Rn) (q : Bool) (hq : runB l r = q) (hs : ∀ b ∈ l, shapeB b = true) (w : World) (hl : Bars w v l) :
    Calls Tryz.prog 36 #[v, (.agg #[.string r.mark, .int .i64 r.tx, .int .i64 r.ty, .int .i64 r.ax, .int .i64 r.ay, .int .i64 r.az, .int .i64 r.sx, .int .i64 r.sy, .int .i64 r.sz, .int .i64 r.count])] w (Ret w (.bool q)) := by
  have HF := Lib.hid (fun w hl => refFind_c l v r.mark w hl)
  have HT := Lib.hid (fun q h w => refTurn_v r.tx r.ty q h w)
  have HA := Lib.hid (fun q h w => refNear15_v ⟨r.ax, r.ay, r.az⟩ q h w)
  have HS := Lib.hid (fun q h w => refTwice_v ⟨r.sx, r.sy, r.sz⟩ q h w)
  have HL := Lib.hid hl
  rw [runB_eq] at hq
  have HQ := Lib.hid hq
  have HB := Lib.hid hs
  obtain ⟨ok, HK⟩ : ∃ q, Hid (right1 l r = q) := ⟨_, Lib.hid rfl⟩
  obtain ⟨K, HKK⟩ : ∃ K, Hid (findI l r.mark = K) := ⟨_, Lib.hid rfl⟩
  rw [HKK.out] at HF
  obtain ⟨ok2, HK2⟩ : ∃ q, Hid (right2 r = q) := ⟨_, Lib.hid rfl⟩
  clear hs hl hq
  go_enter Tryz.func36, Tryz.ntmps36
  go_wp2_with fail
  go_at_call 77; refine (HF.out _ (HL.out.below (by (repeat (first | exact grow_refl _ | refine grow_ext _ ?_ | refine grow_alloc _ ?_ | refine grow_drew ?_))))).mono ?_; rintro e w' ⟨rfl, xf, rfl⟩
  go_upto_region 2 with fail
  refine world_mask (fun W => (∃ x, W = ext w x) ∧ Blk W w.heap.size (rnCells r) 89) _ ⟨ext_of (by (repeat (first | exact grow_refl _ | refine grow_ext _ ?_ | refine grow_alloc _ ?_ | refine grow_drew ?_))), (Blk.new' rfl _ _).ext _⟩ ?_
  rintro W1 ⟨⟨x, rfl⟩, hR⟩
  have c0 : (ext w x).cell? ⟨w.heap.size, 0, none⟩ = some (.string r.mark) := hR.cell 0
  have c1 : (ext w x).cell? ⟨w.heap.size, 1, none⟩ = some (.int .i64 r.tx) := hR.cell 1
  have c2 : (ext w x).cell? ⟨w.heap.size, 2, none⟩ = some (.int .i64 r.ty) := hR.cell 2
  have c3 : (ext w x).cell? ⟨w.heap.size, 3, none⟩ = some (.int .i64 r.ax) := hR.cell 3
  have c4 : (ext w x).cell? ⟨w.heap.size, 4, none⟩ = some (.int .i64 r.ay) := hR.cell 4
  have c5 : (ext w x).cell? ⟨w.heap.size, 5, none⟩ = some (.int .i64 r.az) := hR.cell 5
  have c6 : (ext w x).cell? ⟨w.heap.size, 6, none⟩ = some (.int .i64 r.sx) := hR.cell 6
  have c7 : (ext w x).cell? ⟨w.heap.size, 7, none⟩ = some (.int .i64 r.sy) := hR.cell 7
  have c8 : (ext w x).cell? ⟨w.heap.size, 8, none⟩ = some (.int .i64 r.sz) := hR.cell 8
  have c9 : (ext w x).cell? ⟨w.heap.size, 9, none⟩ = some (.int .i64 r.count) := hR.cell 9
  have HRB := Lib.hid hR
  clear hR
  obtain ⟨W1, hW1⟩ : ∃ W, W = ext w x := ⟨_, rfl⟩
  have HW1 := Lib.hid hW1
  rw [← hW1] at c0 c1 c2 c3 c4 c5 c6 c7 c8 c9 HRB ⊢
  clear hW1
  have HL1 := Lib.hid (show Bars W1 v l by rw [HW1.out]; exact HL.out.ext _)
  obtain ⟨mark, tx, ty, ax, ay, az, sx, sy, sz, count⟩ := r
  simp only at *
  go_cut [33] (fun s wx => s = .bool (!ok) ∧ ∃ x, wx = ext W1 x)
  case first =>
    have hok := HK.out
    unfold right1 at hok
    simp only [HKK.out] at hok
    by_cases h1 : 0 ≤ K
    · rw [decide_eq_true h1, Bool.true_and] at hok
      cases h2 : turnB tx ty
      · obtain rfl : false = ok := by rw [← hok, h2]; rfl
        have H2 := Lib.hid h2
        clear h2 hok
        go_wp2_with fail
        go_at_call 78; refine (HT.out _ H2.out _).mono ?_; rintro e w' ⟨rfl, y2, rfl⟩
        go_wp2
        go_meet
        exact ⟨rfl, ext_of (by (repeat (first | exact grow_refl _ | refine grow_ext _ ?_ | refine grow_alloc _ ?_ | refine grow_drew ?_)))⟩
      · rw [h2, Bool.true_and] at hok
        have H2 := Lib.hid h2
        clear h2
        by_cases h3 : 1 ≤ count
        · rw [decide_eq_true h3, Bool.true_and] at hok
          by_cases h4 : count ≤ 1000
          · rw [decide_eq_true h4, Bool.true_and] at hok
            have H5 := Lib.hid hok
            clear hok
            go_wp2_with fail
            go_at_call 78; refine (HT.out _ H2.out _).mono ?_; rintro e w' ⟨rfl, y2, rfl⟩
            go_wp2_with fail
            go_at_call 79; refine (HA.out _ H5.out _).mono ?_; rintro e w' ⟨rfl, y3, rfl⟩
            go_wp2
            go_meet
            exact ⟨by rw [decide_eq_false (by omega : ¬ K < 0), decide_eq_false (by omega : ¬ count < 1), decide_eq_false (by omega : ¬ 1000 < count)]; rfl, ext_of (by (repeat (first | exact grow_refl _ | refine grow_ext _ ?_ | refine grow_alloc _ ?_ | refine grow_drew ?_)))⟩
          · obtain rfl : false = ok := by rw [← hok, decide_eq_false h4]; rfl
            clear hok
            go_wp2_with fail
            go_at_call 78; refine (HT.out _ H2.out _).mono ?_; rintro e w' ⟨rfl, y2, rfl⟩
            go_wp2
            go_meet
            exact ⟨rfl, ext_of (by (repeat (first | exact grow_refl _ | refine grow_ext _ ?_ | refine grow_alloc _ ?_ | refine grow_drew ?_)))⟩
        · obtain rfl : false = ok := by rw [← hok, decide_eq_false h3]; rfl
          clear hok
          go_wp2_with fail
          go_at_call 78; refine (HT.out _ H2.out _).mono ?_; rintro e w' ⟨rfl, y2, rfl⟩
          go_wp2
          go_meet
          exact ⟨rfl, ext_of (by (repeat (first | exact grow_refl _ | refine grow_ext _ ?_ | refine grow_alloc _ ?_ | refine grow_drew ?_)))⟩
    · obtain rfl : false = ok := by rw [← hok, decide_eq_false h1]; rfl
      clear hok
      go_wp2
      go_meet
      exact ⟨rfl, ext_of (by (repeat (first | exact grow_refl _ | refine grow_ext _ ?_ | refine grow_alloc _ ?_ | refine grow_drew ?_)))⟩
  case rest =>
    obtain ⟨rfl, y, rfl⟩ := hcut
    have hq := HQ.out
    rw [HK.out] at hq
    cases ok
    · obtain rfl : false = q := by rw [← hq]; rfl
      clear hq
      go_wp2
      go_ret
      exact Ret.of (by rw [HW1.out]; (repeat (first | exact grow_refl _ | refine grow_ext _ ?_ | refine grow_alloc _ ?_ | refine grow_drew ?_)))
    rw [Bool.true_and] at hq
    have HQ2 := Lib.hid hq
    clear hq HQ
    have hr := HK.out
    unfold right1 at hr
    simp only [Bool.and_eq_true, decide_eq_true_iff] at hr
    obtain ⟨k1, k2, k3, k4, k5⟩ := hr
    rw [HKK.out] at k1
    have HT2 := Lib.hid k2
    have HA5 := Lib.hid (near_iff.1 k5)
    clear k2 k5 HA HT HF
    go_upto_region 4 with fail
    go_cut [48] (fun s wx => s = .bool (!ok2) ∧ ∃ x, wx = ext W1 x)
    case first =>
      have hok := HK2.out
      unfold right2 at hok
      simp only at hok
      by_cases h1 : 1 < count
      · rw [decide_eq_false (by omega), Bool.false_or] at hok
        cases h3 : nearB ⟨sx, sy, sz⟩ 2097152
        all_goals
          rw [h3] at hok
          have H3 := Lib.hid h3
          clear h3
          by_cases a1 : sx = 0
          · by_cases a2 : sy = 0
            · by_cases a3 : sz = 0
              · obtain rfl : false = ok2 := by rw [← hok, a1, a2, a3]; rfl
                subst a1 a2 a3
                clear hok HS H3
                go_wp2
                go_meet
                exact ⟨rfl, ext_of (by (repeat (first | exact grow_refl _ | refine grow_ext _ ?_ | refine grow_alloc _ ?_ | refine grow_drew ?_)))⟩
              · have e3 : (sz == 0) = false := by simpa using a3
                simp [a3] at hok
                subst hok a1 a2
                go_wp2_with fail
                go_at_call 80; refine (HS.out _ H3.out _).mono ?_; rintro e w' ⟨rfl, y5, rfl⟩
                go_wp2
                go_meet
                exact ⟨rfl, ext_of (by (repeat (first | exact grow_refl _ | refine grow_ext _ ?_ | refine grow_alloc _ ?_ | refine grow_drew ?_)))⟩
            · have e3 : (sy == 0) = false := by simpa using a2
              simp [a2] at hok
              subst hok a1
              go_wp2_with fail
              go_at_call 80; refine (HS.out _ H3.out _).mono ?_; rintro e w' ⟨rfl, y5, rfl⟩
              go_wp2
              go_meet
              exact ⟨rfl, ext_of (by (repeat (first | exact grow_refl _ | refine grow_ext _ ?_ | refine grow_alloc _ ?_ | refine grow_drew ?_)))⟩
          · have e3 : (sx == 0) = false := by simpa using a1
            simp [a1] at hok
            subst hok
            go_wp2_with fail
            go_at_call 80; refine (HS.out _ H3.out _).mono ?_; rintro e w' ⟨rfl, y5, rfl⟩
            go_wp2
            go_meet
            exact ⟨rfl, ext_of (by (repeat (first | exact grow_refl _ | refine grow_ext _ ?_ | refine grow_alloc _ ?_ | refine grow_drew ?_)))⟩
      · rw [decide_eq_true (by omega), Bool.true_or] at hok
        subst hok
        go_wp2
        go_meet
        exact ⟨rfl, ext_of (by (repeat (first | exact grow_refl _ | refine grow_ext _ ?_ | refine grow_alloc _ ?_ | refine grow_drew ?_)))⟩
    case rest =>
      obtain ⟨rfl, y2, rfl⟩ := hcut
      have hq := HQ2.out
      rw [HK2.out] at hq
      cases ok2
      · obtain rfl : false = q := by rw [← hq]; rfl
        clear hq
        go_wp2
        go_ret
        exact Ret.of (by rw [HW1.out]; (repeat (first | exact grow_refl _ | refine grow_ext _ ?_ | refine grow_alloc _ ?_ | refine grow_drew ?_)))
      rw [Bool.true_and] at hq
      have hsm := HK2.out
      unfold right2 at hsm
      simp only [Bool.or_eq_true, Bool.and_eq_true, decide_eq_true_iff] at hsm
      have HSM := Lib.hid (show 1 < count → NearP ⟨sx, sy, sz⟩ 2097152 from fun h => by
        rcases hsm with h' | h'
        · omega
        · exact near_iff.1 h'.2)
      clear hsm HS HQ2
      have hsm := HK2.out
      unfold right2 at hsm
      simp only [Bool.or_eq_true, Bool.and_eq_true, decide_eq_true_iff] at hsm
      have hstep : 1 < count → NearP ⟨sx, sy, sz⟩ 2097152 := fun h => by
        rcases hsm with h' | h'
        · omega
        · exact near_iff.1 h'.2
      clear hsm
      rcases findI_cases l mark with ⟨e, -⟩ | ⟨k, hkl, e, -, -⟩
      · rw [HKK.out] at e; omega
      obtain rfl : K = (k : Int) := by rw [← HKK.out, e]
      have hbm : barOf l mark = l[k] := by unfold barOf; rw [e]; simp [hkl]
      have hbs := HB.out _ (List.getElem_mem hkl)
      obtain ⟨va, vc, rfl, v2, v3, v4⟩ := HL1.out.shape
      obtain ⟨hok, b0, off, ea, hbr⟩ := v4 k hkl
      subst ea
      rw [hbm] at hq
      obtain ⟨b, hb⟩ : ∃ b, l[k] = b := ⟨_, rfl⟩
      rw [hb] at hq hbs hok hbr
      have hbr := hbr.ext y2
      obtain ⟨b1, b2, b3, b4, b5⟩ := hbr
      have c0 := cell_ext_some c0 y2
      have c1 := cell_ext_some c1 y2
      have c2 := cell_ext_some c2 y2
      have c3 := cell_ext_some c3 y2
      have c4 := cell_ext_some c4 y2
      have c5 := cell_ext_some c5 y2
      have c6 := cell_ext_some c6 y2
      have c7 := cell_ext_some c7 y2
      have c8 := cell_ext_some c8 y2
      have c9 := cell_ext_some c9 y2
      have HOK := Lib.hid hok
      have PT0 := Lib.hid (fun w hb => refPoints_c b ⟨mark, tx, ty, ax, ay, az, sx, sy, sz, count⟩ 0 hbs HT2.out HA5.out (by omega) (fun h => absurd h (by omega)) w hb)
      have PT1 := Lib.hid (fun w hb => refPoints_c b ⟨mark, tx, ty, ax, ay, az, sx, sy, sz, count⟩ (count - 1) hbs HT2.out HA5.out (by omega) (fun h => hstep (by omega)) w hb)
      generalize laidL b ⟨mark, tx, ty, ax, ay, az, sx, sy, sz, count⟩ 0 = L0 at *
      generalize laidL b ⟨mark, tx, ty, ax, ay, az, sx, sy, sz, count⟩ (count - 1) = L1 at *
      simp only at PT0 PT1
      have q1 : (0 : Int) ≤ (k : Int) := by omega
      have q2 : (k : Int) < (l.length : Int) := by omega
      have u1 : IntKind.i64.wrap (count - 1) = count - 1 := IntWalk.i64_in _ (by omega)
      have NR1 := Lib.hid (fun r h v w hl => refNear16_v L1 v r h w hl)
      clear hstep hbm hb hbs hok v4 hkl e k1
      cases hn : L0.all fun p => nearB p 1048576
      · obtain rfl : false = q := by rw [← hq, hn]; rfl
        have NR0 := Lib.hid (fun v w hl => refNear16_v L0 v false hn w hl)
        clear hq hn NR1 PT1
        go_wp2_with fail
        refine wp_region_mid 5 2 (by kernel_rfl) (by kernel_rfl) ?_; intro T hT; have HT9 := Lib.hid hT; clear hT; simp only [List.take_succ_cons, List.take_zero, List.drop_succ_cons, List.drop_zero]
        repeat (go_big_quiet_step (fail))
        refine wpQuiet_nil ?_; rintro _ ⟨xq, rfl⟩
        go_wp2_with fail
        have hq0 := PT0.out _ (HOK.out.below (w' := ext (ext W1 y2) xq) (by (repeat (first | exact grow_refl _ | refine grow_ext _ ?_ | refine grow_alloc _ ?_ | refine grow_drew ?_))))
        refine Calls.mono hq0 ?_
        rintro e w' ⟨v54, rfl, hown, x54, rfl⟩; have H54 := Lib.hid (Pts.of_own hown); clear hown hq0
        go_wp2_with (go_at_call 81; refine Calls.mono (NR0.out _ _ H54.out) ?_; rintro e w' ⟨rfl, x55, rfl⟩; clear H54)
        refine HT9.out _ _ ?_
        simp only [List.take_succ_cons, List.take_zero, List.drop_succ_cons, List.drop_zero]
        repeat (go_big_quiet_step (fail))
        refine wpQuiet_nil ?_; rintro _ ⟨xq, rfl⟩
        go_wp2
        go_ret
        exact Ret.of (by rw [HW1.out]; (repeat (first | exact grow_refl _ | refine grow_ext _ ?_ | refine grow_alloc _ ?_ | refine grow_drew ?_)))
      · rw [hn, Bool.true_and] at hq
        have NR0 := Lib.hid (fun v w hl => refNear16_v L0 v true hn w hl)
        have NR1 := Lib.hid (fun v w hl => NR1.out q hq v w hl)
        clear hq hn
        go_wp2_with fail
        go_region_held3 (fun w' => w'.cell? ⟨w.heap.size, 0, none⟩ = some (.string mark) ∧ w'.cell? ⟨w.heap.size, 1, none⟩ = some (.int .i64 tx) ∧ w'.cell? ⟨w.heap.size, 2, none⟩ = some (.int .i64 ty) ∧ w'.cell? ⟨w.heap.size, 3, none⟩ = some (.int .i64 ax) ∧ w'.cell? ⟨w.heap.size, 4, none⟩ = some (.int .i64 ay) ∧ w'.cell? ⟨w.heap.size, 5, none⟩ = some (.int .i64 az) ∧ w'.cell? ⟨w.heap.size, 6, none⟩ = some (.int .i64 sx) ∧ w'.cell? ⟨w.heap.size, 7, none⟩ = some (.int .i64 sy) ∧ w'.cell? ⟨w.heap.size, 8, none⟩ = some (.int .i64 sz) ∧ w'.cell? ⟨w.heap.size, 9, none⟩ = some (.int .i64 count) ∧
            w'.cell? ⟨b0, off + k * 5, none⟩ = some (.string b.mark) ∧ w'.cell? ⟨b0, off + k * 5 + 1, none⟩ = some (.int .i64 b.size) ∧ w'.cell? ⟨b0, off + k * 5 + 2, none⟩ = some (.int .i64 b.count) ∧ w'.cell? ⟨b0, off + k * 5 + 3, none⟩ = some (.int .i64 b.code) ∧ w'.cell? ⟨b0, off + k * 5 + 4, none⟩ = some b.dv) (simp [go_sem, *])
          (first
            | (go_at_call_of 82 (Value.int IntKind.i64 0); refine Calls.mono (PT0.out _ (HOK.out.below (by (repeat (first | exact grow_refl _ | refine grow_ext _ ?_ | refine grow_alloc _ ?_ | refine grow_drew ?_))))) ?_; rintro e w' ⟨v54, rfl, hown, x54, rfl⟩; try (rw [ext_drew] at hown); have H54 := Lib.hid (Pts.of_own hown); clear hown)
            | (go_at_call 82; refine Calls.mono (PT1.out _ (HOK.out.below (by (repeat (first | exact grow_refl _ | refine grow_ext _ ?_ | refine grow_alloc _ ?_ | refine grow_drew ?_))))) ?_; rintro e w' ⟨v65, rfl, hown, x65, rfl⟩)
            | (go_at_call_of 81 v54; refine Calls.mono (NR0.out _ _ H54.out) ?_; rintro e w' ⟨rfl, x55, rfl⟩; clear H54)
            | (go_at_call 81; refine Calls.mono (NR1.out _ _ (Pts.of_own hown)) ?_; rintro e w' ⟨rfl, x66, rfl⟩; clear hown))
        all_goals
          go_wp2
          go_ret
          exact Ret.of (by rw [HW1.out]; (repeat (first | exact grow_refl _ | refine grow_ext _ ?_ | refine grow_alloc _ ?_ | refine grow_drew ?_)))

end Go.Proofs.YtofjopdcbmaijaaGreat

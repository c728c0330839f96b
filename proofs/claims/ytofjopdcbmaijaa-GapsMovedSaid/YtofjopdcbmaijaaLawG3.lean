/- GapsMoved: the walk of the law. -/
import Derived.Test.YtofjopdcbmaijaaPlainH
import Derived.Test.YtofjopdcbmaijaaLaidP
import Derived.Test.YtofjopdcbmaijaaLawG2
namespace Go.Proofs.Ytofjopdcbmaijaa
open Go.RowKit
set_option maxRecDepth 20000

theorem cuts_x {l : List Br} {rs : List Rn} {x : Int} : ∀ c ∈ cutsI l rs x, c.box.lx = x ∧ c.box.hx = x := by
  intro c hc
  unfold cutsI cutsTo at hc
  obtain ⟨i, _, hci⟩ := List.mem_flatMap.1 hc
  unfold cutsAt at hci
  obtain ⟨b, _, hcb⟩ := List.mem_filterMap.1 hci
  unfold cutOf at hcb
  split at hcb
  · cases hcb; exact ⟨rfl, rfl⟩
  · cases hcb
theorem laid_at {l : List Br} {rs : List Rn} (h : laidB l rs = true) : ∀ r ∈ rs, NearP ⟨r.ax, r.ay, r.az⟩ 1048576 := by
  intro r hr
  have hb := (laidB_iff.1 h).2.2.1 r hr
  rw [runB_eq] at hb
  simp only [right1, Bool.and_eq_true] at hb
  exact near_iff.1 hb.1.2.2.2.2

theorem bxs_len2 {f : Bx → Bx} {w : World} {M : List Bx} {err : Int} {e : Ending} {W : World} (h : RetBxs w (M.map f) err e W) :
    ∃ a c, e = .returned (.tuple #[.slice a M.length c, .int .i64 err]) ∧ M.length ≤ c ∧ c ≤ 9223372036854775807 ∧ (∀ i (h : i < M.length), ∃ b off, a = some ⟨b, off, none⟩ ∧ BoxAt W b (off + i * 6) (f M[i])) ∧ ∃ x, W = ext w x := by
  obtain ⟨a, c, e1, e2, e3, e4, e5⟩ := bxs_len h
  rw [List.length_map] at e1 e2
  refine ⟨a, c, e1, e2, e3, fun i hi => ?_, e5⟩
  have := e4 i (by rw [List.length_map]; exact hi)
  rw [List.getElem_map] at this
  exact this

set_option maxRecDepth 100000 in
set_option maxHeartbeats 8000000 in
theorem lawMoved_ok (l : List Br) (rs : List Rn) (v u : Value) (x : Int) (g : Pt) (w : World) (hl : Bars w v l) (hr : Runs w u rs) :
    Calls Try.prog 6 #[v, u, .int .i64 x, (.agg #[.int .i64 g.x, .int .i64 g.y, .int .i64 g.z])] w (Ret w (.bool true)) := by
  have HL := Lib.hid hl
  have HR := Lib.hid hr
  clear hl hr
  go_enter Try.func6, Try.ntmps6
  go_wp2_with fail
  go_at_call 7; refine (awake21_c _).mono ?_; rintro e w' ⟨rfl, x0, rfl⟩
  go_wp2_with fail
  go_at_call 17; refine (right21_c l rs v u x _ (HL.out.below (by (repeat (first | exact grow_refl _ | refine grow_ext _ ?_ | refine grow_alloc _ ?_ | refine grow_drew ?_)))) (HR.out.below (by (repeat (first | exact grow_refl _ | refine grow_ext _ ?_ | refine grow_alloc _ ?_ | refine grow_drew ?_))))).mono ?_; rintro e w' ⟨q, rfl, hq, x1, rfl⟩
  cases q
  · clear hq
    go_wp2
    go_ret
    exact Ret.of (by (repeat (first | exact grow_refl _ | refine grow_ext _ ?_ | refine grow_alloc _ ?_ | refine grow_drew ?_)))
  obtain ⟨hv, hx0, hx1⟩ := hq rfl
  have HV := Lib.hid hv
  have hlen := (laidB_iff.1 hv).2.1
  clear hq hv
  go_wp2_with fail
  go_at_call 19; refine (moved_c g rs u (laid_at HV.out) hlen _ (HR.out.below (by (repeat (first | exact grow_refl _ | refine grow_ext _ ?_ | refine grow_alloc _ ?_ | refine grow_drew ?_))))).mono ?_; rintro e w' ⟨ma, mn, mc, err, rfl, hm, x2, rfl⟩
  by_cases he : err = 0
  · subst he
    obtain ⟨hg, hm⟩ := hm rfl
    have HM := Lib.hid hm
    have HG := Lib.hid hg
    clear hm
    obtain ⟨⟨g1, g2⟩, ⟨g3, g4⟩, g5, g6⟩ := hg
    obtain ⟨y, hy⟩ : ∃ y, x + g.x = y := ⟨_, rfl⟩
    have hw1 : IntKind.i64.wrap (x + g.x) = y := by rw [hy]; exact IntWalk.i64_in _ (by omega)
    have HY := Lib.hid hy
    cases hv2 : laidB l (rs.map (movR g))
    · have HV2 := Lib.hid hv2
      clear hv2 hy
      go_wp2_with fail
      go_at_call 20; refine (laidValid_v l _ v _ false HV2.out _ (HL.out.below (by (repeat (first | exact grow_refl _ | refine grow_ext _ ?_ | refine grow_alloc _ ?_ | refine grow_drew ?_)))) (HM.out.below (by (repeat (first | exact grow_refl _ | refine grow_ext _ ?_ | refine grow_alloc _ ?_ | refine grow_drew ?_))))).mono ?_; rintro e w' ⟨rfl, x3, rfl⟩
      go_wp2
      go_ret
      exact Ret.of (by (repeat (first | exact grow_refl _ | refine grow_ext _ ?_ | refine grow_alloc _ ?_ | refine grow_drew ?_)))
    have HV2 := Lib.hid hv2
    clear hv2
    cases hi2 : decide (-1048576 ≤ y ∧ y ≤ 1048576)
    · have HI2 := Lib.hid hi2
      clear hi2 hy
      go_wp2_with fail
      go_at_call 20; refine (laidValid_v l _ v _ true HV2.out _ (HL.out.below (by (repeat (first | exact grow_refl _ | refine grow_ext _ ?_ | refine grow_alloc _ ?_ | refine grow_drew ?_)))) (HM.out.below (by (repeat (first | exact grow_refl _ | refine grow_ext _ ?_ | refine grow_alloc _ ?_ | refine grow_drew ?_))))).mono ?_; rintro e w' ⟨rfl, x3, rfl⟩
      go_wp2_with fail
      go_at_call 21; refine (refIsLen_v y false HI2.out _).mono ?_; rintro e w' ⟨rfl, x4, rfl⟩
      go_wp2
      go_ret
      exact Ret.of (by (repeat (first | exact grow_refl _ | refine grow_ext _ ?_ | refine grow_alloc _ ?_ | refine grow_drew ?_)))
    have HI2 := Lib.hid hi2
    have hyr : -1048576 ≤ y ∧ y ≤ 1048576 := by simpa using hi2
    obtain ⟨y0, y1⟩ := hyr
    clear hi2
    go_wp2_with fail
    go_at_call 20; refine (laidValid_v l _ v _ true HV2.out _ (HL.out.below (by (repeat (first | exact grow_refl _ | refine grow_ext _ ?_ | refine grow_alloc _ ?_ | refine grow_drew ?_)))) (HM.out.below (by (repeat (first | exact grow_refl _ | refine grow_ext _ ?_ | refine grow_alloc _ ?_ | refine grow_drew ?_))))).mono ?_; rintro e w' ⟨rfl, x3, rfl⟩
    go_wp2_with fail
    go_at_call 21; refine (refIsLen_v y true HI2.out _).mono ?_; rintro e w' ⟨rfl, x4, rfl⟩
    have hin : inI x (-1048576) 1048576 = true := by unfold inI; simp; omega
    have hin2 : inI y (-1048576) 1048576 = true := by unfold inI; simp; omega
    have hce : cutsE l rs x = (cutsI l rs x, 0) := by unfold cutsE; rw [if_pos HV.out, if_pos hin]
    have hce2 : cutsE l (rs.map (movR g)) y = ((cutsI l rs x).map (movC g), 0) := by unfold cutsE; rw [if_pos HV2.out, if_pos hin2, ← hy, cutsI_mov]
    have hsm : ∀ c ∈ cutsI l rs x, SmallB c.box ∧ sizeB c.size = true := by have := @cutsE_small l rs x; rw [hce] at this; exact this
    have hcx := @cuts_x l rs x
    have hcl : clearE l rs x = if (cutsI l rs x).length < 2 then (0, 12) else (clearI (cutsI l rs x), 0) := by unfold clearE; rw [hce, if_pos rfl]
    have hcl2 : clearE l (rs.map (movR g)) y = if (cutsI l rs x).length < 2 then (0, 12) else (clearI (cutsI l rs x), 0) := by
      unfold clearE; rw [hce2, if_pos rfl, List.length_map]
      split
      · rfl
      · rw [clearI_mov g _ (by omega)]
    have hck : checkE l rs 20 x = (checkI (cutsI l rs x) 20, 0) := by unfold checkE; rw [hce, if_pos rfl, if_pos (by decide)]
    have hck2 : checkE l (rs.map (movR g)) 20 y = (checkI (cutsI l rs x) 20, 0) := by unfold checkE; rw [hce2, if_pos rfl, if_pos (by decide), checkI_mov]
    have hlen2 : (cutsI l rs x).length ≤ 12000 := by have := cutsE_len l rs x; rw [hce] at this; exact this
    obtain ⟨cr, ce, hcr⟩ : ∃ cr ce, (if (cutsI l rs x).length < 2 then (0, 12) else (clearI (cutsI l rs x), 0) : Int × Int) = (cr, ce) := ⟨_, _, rfl⟩
    rw [hcr] at hcl hcl2
    have HC1 := Lib.hid (fun w hl hr => gClear_v l rs v u x cr ce hcl w hl hr)
    have HC2 := Lib.hid (fun u' w hl hr => gClear_v l (rs.map (movR g)) v u' y cr ce hcl2 w hl hr)
    have HK1 := Lib.hid (fun w hl hr => gCheck_c l rs v u 20 x w hl hr)
    have HK2 := Lib.hid (fun u' w hl hr => gCheck_c l (rs.map (movR g)) v u' 20 y w hl hr)
    rw [hck] at HK1
    rw [hck2] at HK2
    have HR1 := Lib.hid (fun w hl hr => gRow_c l rs v u x w hl hr)
    have HR2 := Lib.hid (fun u' w hl hr => gRow_c l (rs.map (movR g)) v u' y w hl hr)
    rw [hce] at HR1
    rw [hce2] at HR2
    simp only [map_box_mov] at HR1 HR2
    obtain ⟨F, hF⟩ : ∃ F, checkI (cutsI l rs x) 20 = F := ⟨_, rfl⟩
    rw [hF] at HK1 HK2
    simp only at HK1 HK2
    have hmx : ∀ k (h : k < ((cutsI l rs x).map Ct.box).length), SmallB ((cutsI l rs x).map Ct.box)[k] ∧ ((cutsI l rs x).map Ct.box)[k].lx = x ∧ ((cutsI l rs x).map Ct.box)[k].hx = x := fun k h => by
      rw [List.getElem_map]
      exact ⟨(hsm _ (List.getElem_mem _)).1, hcx _ (List.getElem_mem _)⟩
    have hMl : ((cutsI l rs x).map Ct.box).length ≤ 12000 := by rw [List.length_map]; exact hlen2
    generalize (cutsI l rs x).map Ct.box = M at *
    have HMX := Lib.hid hmx
    have HR1' := Lib.hid (fun w hl hr => (HR1.out w hl hr).mono fun e W h => bxs_len h)
    have HR2' := Lib.hid (fun u' w hl hr => (HR2.out u' w hl hr).mono fun e W h => bxs_len2 h)
    clear hcl hcl2 hck hck2 hce hce2 hcr hF hmx hsm hcx hin hin2 hlen2 HR1 HR2 hy
    go_wp2_with fail
    go_at_call 18; refine (HR1'.out _ (HL.out.below (by (repeat (first | exact grow_refl _ | refine grow_ext _ ?_ | refine grow_alloc _ ?_ | refine grow_drew ?_)))) (HR.out.below (by (repeat (first | exact grow_refl _ | refine grow_ext _ ?_ | refine grow_alloc _ ?_ | refine grow_drew ?_))))).mono ?_; rintro e w' ⟨a1, c1, rfl, k1, k2, r1, x5, rfl⟩
    have H1 := Lib.hid r1
    clear r1 HR1'
    go_wp2_with fail
    go_at_call 18; refine (HR2'.out _ _ (HL.out.below (by (repeat (first | exact grow_refl _ | refine grow_ext _ ?_ | refine grow_alloc _ ?_ | refine grow_drew ?_)))) (HM.out.below (by (repeat (first | exact grow_refl _ | refine grow_ext _ ?_ | refine grow_alloc _ ?_ | refine grow_drew ?_))))).mono ?_; rintro e w' ⟨a2, c2, rfl, k3, k4, r2, x6, rfl⟩
    have H2 := Lib.hid r2
    clear r2 HR2'
    refine world_mask (fun W => Below w.heap.size w W ∧ Blk W w.heap.size #[.int .i64 g.x, .int .i64 g.y, .int .i64 g.z] 39 ∧ Runs W (.slice ma mn mc) (rs.map (movR g)) ∧
      (∀ i (h : i < M.length), ∃ b off, a1 = some ⟨b, off, none⟩ ∧ BoxAt W b (off + i * 6) M[i]) ∧ (∀ i (h : i < M.length), ∃ b off, a2 = some ⟨b, off, none⟩ ∧ BoxAt W b (off + i * 6) (movB g M[i]))) _ ⟨by (repeat (first | exact grow_refl _ | refine grow_ext _ ?_ | refine grow_alloc _ ?_ | refine grow_drew ?_)), ?_, HM.out.below (by (repeat (first | exact grow_refl _ | refine grow_ext _ ?_ | refine grow_alloc _ ?_ | refine grow_drew ?_))), fun i h => ?_, H2.out⟩ ?_
    · exact ((((((Blk.new' rfl _ _).ext _).ext _).ext _).ext _).ext _).below (by (repeat (first | exact grow_refl _ | refine grow_ext _ ?_ | refine grow_alloc _ ?_ | refine grow_drew ?_)))
    · obtain ⟨b, off, e, hb⟩ := H1.out i h
      exact ⟨b, off, e, hb.ext _⟩
    clear HM H1 H2
    rintro W1 ⟨hb1, hb2, hb3, hb4, hb5⟩
    have HB := Lib.hid hb1
    have HBY := Lib.hid hb2
    have HM := Lib.hid hb3
    have H1 := Lib.hid hb4
    have H2 := Lib.hid hb5
    have k0 : W1.cell? ⟨w.heap.size, 0, none⟩ = some (.int .i64 g.x) := hb2.cell 0
    have k1' : W1.cell? ⟨w.heap.size, 1, none⟩ = some (.int .i64 g.y) := hb2.cell 1
    have k2' : W1.cell? ⟨w.heap.size, 2, none⟩ = some (.int .i64 g.z) := hb2.cell 2
    clear hb1 hb2 hb3 hb4 hb5
    go_wp2_with fail
    go_loopw [86] (fun i wr => ∃ k : Nat, k ≤ M.length ∧ i = .int .i64 k ∧ ∃ z, wr = ext W1 z) (fun i _ => M.length - (intOf i).toNat)
    case atStart => exact ⟨0, by omega, rfl, ext_of (by (repeat (first | exact grow_refl _ | refine grow_ext _ ?_ | refine grow_alloc _ ?_ | refine grow_drew ?_)))⟩
    case round =>
      obtain ⟨k, hk, rfl, z, rfl⟩ := hrel
      by_cases hlt : k < M.length
      · have i1 : (0 : Int) ≤ (k : Int) := by omega
        have i2 : (k : Int) < (M.length : Int) := by omega
        obtain ⟨b0, o0, rfl, hp⟩ := H1.out k hlt
        obtain ⟨b1, o1, rfl, hq⟩ := H2.out k hlt
        obtain ⟨hs1, hs2, hs3⟩ := HMX.out k hlt
        have hp' := hp.ext z
        have hq' := hq.ext z
        generalize M[k] = p at *
        obtain ⟨⟨u1, u2⟩, ⟨u3, u4⟩, ⟨u5, u6⟩, u7, u8⟩ := hs1
        obtain ⟨p0, p1, p2, p3, p4, p5⟩ := hp'
        obtain ⟨q0, q1, q2, q3, q4, q5⟩ := hq'
        simp only [movB] at q0 q1 q2 q3 q4 q5
        clear hp hq
        rw [hs2, HY.out] at q0
        rw [hs3, HY.out] at q3
        go_upto_region 18 with fail
        clear p0 p1 p2 p3 p4 p5
        go_region
        go_wp2
        go_roundw
        case rel => exact ⟨k + 1, by omega, by go_num, ext_of (by (repeat (first | exact grow_refl _ | refine grow_ext _ ?_ | refine grow_alloc _ ?_ | refine grow_drew ?_)))⟩
        case measure => simp [intOf]; omega
      · obtain rfl : k = M.length := by omega
        go_wp2_with fail
        go_at_call 16; refine (HC1.out _ (HL.out.below (by (repeat (first | exact grow_refl _ | exact HB.out | refine grow_ext _ ?_ | refine grow_alloc _ ?_ | refine grow_drew ?_)))) (HR.out.below (by (repeat (first | exact grow_refl _ | exact HB.out | refine grow_ext _ ?_ | refine grow_alloc _ ?_ | refine grow_drew ?_))))).mono ?_; rintro e w' ⟨rfl, x7, rfl⟩
        go_wp2_with fail
        go_at_call 16; refine (HC2.out _ _ (HL.out.below (by (repeat (first | exact grow_refl _ | exact HB.out | refine grow_ext _ ?_ | refine grow_alloc _ ?_ | refine grow_drew ?_)))) (HM.out.below (by (repeat (first | exact grow_refl _ | refine grow_ext _ ?_ | refine grow_alloc _ ?_ | refine grow_drew ?_))))).mono ?_; rintro e w' ⟨rfl, x8, rfl⟩
        go_wp2_with fail
        go_at_call 15; refine (HK1.out _ (HL.out.below (by (repeat (first | exact grow_refl _ | exact HB.out | refine grow_ext _ ?_ | refine grow_alloc _ ?_ | refine grow_drew ?_)))) (HR.out.below (by (repeat (first | exact grow_refl _ | exact HB.out | refine grow_ext _ ?_ | refine grow_alloc _ ?_ | refine grow_drew ?_))))).mono ?_; rintro e w' ⟨v9, rfl, ho9, x9, rfl⟩
        have HO9 := Lib.hid (Fds.of_own ho9)
        obtain ⟨a9, c9, rfl, -, -, -⟩ := own_shape ho9
        clear ho9
        go_wp2_with fail
        go_at_call 15; refine (HK2.out _ _ (HL.out.below (by (repeat (first | exact grow_refl _ | exact HB.out | refine grow_ext _ ?_ | refine grow_alloc _ ?_ | refine grow_drew ?_)))) (HM.out.below (by (repeat (first | exact grow_refl _ | refine grow_ext _ ?_ | refine grow_alloc _ ?_ | refine grow_drew ?_))))).mono ?_; rintro e w' ⟨v10, rfl, ho10, x10, rfl⟩
        have HO10 := Lib.hid (Fds.of_own ho10)
        obtain ⟨a10, c10, rfl, -, -, -⟩ := own_shape ho10
        clear ho10
        go_wp2_with fail
        go_at_call 22; refine (equalFds_c F _ _ _ (HO9.out.below (by (repeat (first | exact grow_refl _ | refine grow_ext _ ?_ | refine grow_alloc _ ?_ | refine grow_drew ?_)))) (HO10.out.below (by (repeat (first | exact grow_refl _ | refine grow_ext _ ?_ | refine grow_alloc _ ?_ | refine grow_drew ?_))))).mono ?_; rintro e w' ⟨rfl, x11, rfl⟩
        go_wp2
        go_ret
        exact Ret.of (by (repeat (first | exact grow_refl _ | exact HB.out | refine grow_ext _ ?_ | refine grow_alloc _ ?_ | refine grow_drew ?_)))
  · have d1 : (err != 0) = true := by simpa using he
    clear he hm
    go_wp2
    go_ret
    exact Ret.of (by (repeat (first | exact grow_refl _ | refine grow_ext _ ?_ | refine grow_alloc _ ?_ | refine grow_drew ?_)))

theorem lawGapsMoved_c (l : List Br) (v : Value) (rs : List Rn) (u : Value) (x gx gy gz : Int) (_ : -9223372036854775808 ≤ x ∧ x ≤ 9223372036854775807) (w : World) (hl : Bars w v l) (hr : Runs w u rs) :
    Calls Try.prog 6 #[v, u, .int .i64 x, .agg #[.int .i64 gx, .int .i64 gy, .int .i64 gz]] w (Ret w (.bool true)) := lawMoved_ok l rs v u x ⟨gx, gy, gz⟩ w hl hr

end Go.Proofs.Ytofjopdcbmaijaa

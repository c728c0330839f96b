/- The cross-section of a solid: solid.Section. -/
import Derived.Test.YtafkibnkpcmmgaaSolI
namespace Go.Proofs.Ytafkibnkpcmmgaa
open Go.RowKit
attribute [local go_sem] Oper.semAt_some

def sectR (l m : List Bx) (x : Int) : Int × Int := if solidB l m = true then (if -1048576 ≤ x ∧ x ≤ 1048576 then (sectI l m x, 0) else (0, 2)) else (0, 1)
def secF (x : Int) (c : Bx) : Int := if c.lx ≤ x ∧ x < c.hx then areaB c else 0
def secT (x : Int) (xs : List Thick) : Int := sumL (secF x) (xs.map (·.1))
def secV (x : Int) (xs : List Thick) : Value := .int .i64 (wrap64 (secT x xs))
theorem sec_nil (x : Int) : secV x [] = .int .i64 0 := by simp [secV, secT, sumL, wrap64]
theorem secT_snoc (x : Int) (pre : List Thick) (c : Thick) : secT x (pre ++ [c]) = secT x pre + secF x c.1 := by
  unfold secT
  rw [List.map_append, sumL_append]
  simp only [List.map_cons, List.map_nil, sumL]
  omega
theorem sec_step {s b c : Int} (hb : 0 ≤ b ∧ b ≤ 2097152) (hc : 0 ≤ c ∧ c ≤ 2097152) : wrap64 (wrap64 s + wrap64 (wrap64 b * wrap64 c)) = wrap64 (s + b * c) := by
  have p1 : 0 ≤ b * c := Int.mul_nonneg hb.1 hc.1
  have p2 : b * c ≤ 4398046511104 := Int.le_trans (Int.mul_le_mul hb.2 hc.2 hc.1 (by omega)) (by decide)
  rw [i64_in' (n := b) (by omega), i64_in' (n := c) (by omega)]
  generalize b * c = v at *
  unfold wrap64
  omega
theorem heap_below2 {W W' : World} {B : Nat} {t : TypeId} {v : Value} (h : Boxed W B t v) (hb : Below W.heap.size W W') : Boxed W' B t v := (hb.block B h.lt).trans h
theorem enters_sec1 : Enters 56 := enters_of Try.func56 (by decide) (by simp [Try.f56])
theorem sect_bound {l m : List Bx} (h : l.all thickB = true) (h0 : l ≠ []) (x : Int) : 0 ≤ sectI l m x ∧ sectI l m x ≤ 4398046511104 := by
  rw [sect_eq h h0]
  refine ⟨sec_nonneg x, ?_⟩
  have ht := hull_thick h h0
  have hv := valid_iff.1 (thick_iff.1 ht).1
  have ho := ord_of ht
  have e : sumI (fun _ => sumI (fun _ => (1 : Int)) (hullX l).lz (hullX l).hz) (hullX l).ly (hullX l).hy = ((hullX l).hz - (hullX l).lz) * ((hullX l).hy - (hullX l).ly) := by
    rw [sumI_const _ ho.2.2, Int.one_mul, sumI_const _ ho.2.1]
  have h1 : secI l m (hullX l) x ≤ sumI (fun _ => sumI (fun _ => (1 : Int)) (hullX l).lz (hullX l).hz) (hullX l).ly (hullX l).hy := sumI_le fun _ _ _ => sumI_le fun _ _ _ => (ind_bounds _ _ _).2
  rw [e] at h1
  exact Int.le_trans h1 (Int.le_trans (Int.mul_le_mul (show _ ≤ (2097152 : Int) by omega) (show _ ≤ (2097152 : Int) by omega) (by omega) (by omega)) (by decide))

set_option maxRecDepth 100000 in
set_option maxHeartbeats 4000000 in
theorem section_c (l m : List Bx) (u t : Value) (x : Int) (w : World) (hl : Boxes w u l) (hm : Boxes w t m) :
    Calls Try.prog 23 #[.agg #[u, t], .int .i64 x] w (Ret w (.tuple #[.int .i64 (sectR l m x).1, .int .i64 (sectR l m x).2])) := by
  have HL := Lib.hid hl
  have HM := Lib.hid hm
  clear hl hm
  cases hv : solidB l m
  · have HR := Lib.hid (show sectR l m x = (0, 1) by unfold sectR; rw [hv]; rfl)
    have HV := Lib.hid hv
    clear hv
    go_enter Try.func23, Try.ntmps23
    go_wp2_with fail
    go_at_call 30; refine (solidValid_v l m _ _ _ HV.out _ (HL.out.below (by (repeat (first | exact grow_refl _ | refine grow_ext _ ?_ | refine grow_alloc _ ?_ | refine grow_drew ?_)))) (HM.out.below (by (repeat (first | exact grow_refl _ | refine grow_ext _ ?_ | refine grow_alloc _ ?_ | refine grow_drew ?_))))).mono ?_; rintro e w' ⟨rfl, x1, rfl⟩
    go_wp2
    go_ret2
    rw [HR.out]
    exact Ret.of (by (repeat (first | exact grow_refl _ | refine grow_ext _ ?_ | refine grow_alloc _ ?_ | refine grow_drew ?_)))
  by_cases hx : -1048576 ≤ x ∧ x ≤ 1048576
  · have HR := Lib.hid (show sectR l m x = (sectI l m x, 0) by unfold sectR; rw [hv, if_pos rfl, if_pos hx])
    have HV := Lib.hid hv
    have d1 : decide (x < -1048576) = false := by simp; omega
    have d2 : decide (1048576 < x) = false := by simp; omega
    clear hv hx
    refine (callsIn_wide (n := 3)).1 (callsIn_of_wp_marks Try.func23 rfl trivial ?_ rfl)
    simp only [Try.ntmps23, List.size_toArray, List.length_cons, List.length_nil, Nat.reduceAdd, Nat.reduceSub, Array.replicate_succ, Array.replicate_zero, List.push_toArray, List.append_toArray, List.nil_append, List.cons_append]
    refine wpIn_wide.2 ?_
    go_wp2_with fail
    go_at_call 30; refine (solidValid_v l m _ _ _ HV.out _ (HL.out.below (by (repeat (first | exact grow_refl _ | refine grow_ext _ ?_ | refine grow_alloc _ ?_ | refine grow_drew ?_)))) (HM.out.below (by (repeat (first | exact grow_refl _ | refine grow_ext _ ?_ | refine grow_alloc _ ?_ | refine grow_drew ?_))))).mono ?_; rintro e w' ⟨rfl, x1, rfl⟩
    go_wp2_with fail
    obtain ⟨g, hg⟩ : ∃ g, g = w.heap.size + 1 + 1 + x1.heap.size := ⟨_, rfl⟩
    rw [← hg]
    refine world_mask (fun W => Below w.heap.size w W ∧ g < W.heap.size ∧ W.cell? ⟨w.heap.size, 0, none⟩ = some u ∧ W.cell? ⟨w.heap.size, 1, none⟩ = some t ∧ Boxed W (w.heap.size + 1) 3 (.int .i64 x) ∧ Boxed W g 3 (.int .i64 0)) _ ?_ ?_
    · refine ⟨by (repeat (first | exact grow_refl _ | refine grow_ext _ ?_ | refine grow_alloc _ ?_ | refine grow_drew ?_)), by rw [hg]; simp [size_ext], by simp [go_sem], by simp [go_sem], ?_, ?_⟩
      · have := Boxed.new (w.alloc (.cells #[u, t] 24)) 3 (.int .i64 x)
        rw [World.size_alloc] at this
        exact (heap_below2 this (by (repeat (first | exact grow_refl _ | refine grow_ext _ ?_ | refine grow_alloc _ ?_ | refine grow_drew ?_))))
      · have := Boxed.new (ext ((w.alloc (.cells #[u, t] 24)).alloc (.cells #[.int .i64 x] 3)) x1) 3 (.int .i64 0)
        rw [size_ext, World.size_alloc, World.size_alloc, ← hg] at this
        exact this
    rintro W0 ⟨hB0, hgW, hu, ht, hbxx, hbx⟩
    have hwg : w.heap.size + 1 < g := by omega
    clear hg
    refine (wpIn_wide (n := 3)).1 (wpIn_rangeFunc_ownH rfl (by omega) (gf := 56) (lb := #[.pointer (some ⟨w.heap.size, 0, none⟩)]) rfl trivial enters_sec1
      (secSeq l m u t w.heap.size w.heap.size g 2 W0 HV.out hB0.size hgW (fun W' h => HL.out.below (hB0.trans h)) (fun W' h => HM.out.below (hB0.trans h)) hu ht) (fun h k => KpT.trans h k) (KpT.book hB0.size) (Below.refl _ _) (fun _ => rfl)
      (fun pre W => (Boxed W g 3 (secV x pre) ∧ Boxed W (w.heap.size + 1) 3 (.int .i64 x)) ∧ Below w.heap.size w W)
      (fun _ _ _ => False)
      (OwnFrom.and (OwnFrom.and (Own.from (boxed_own g 3 (secV x)) _) (Own.from (boxed_own _ _ (fun _ => .int .i64 x)) _)) (ownFrom_below (Nat.le_refl _) hB0.size))
      (fun _ _ _ _ _ hs _ _ => hs)
      ⟨⟨by rw [sec_nil]; exact hbx, hbxx⟩, hB0⟩
      (fun c a' W => ∃ bx, g < bx ∧ BoxedX W bx c.1 ∧ a' = { tmps := #[.agg #[u, t], .int .i64 x, .pointer (some ⟨w.heap.size, 0, none⟩), .pointer (some ⟨w.heap.size + 1, 0, none⟩), .int .i64 0, .int .i64 0, .pointer (some ⟨g, 0, none⟩), .pointer (some ⟨bx, 0, none⟩), .bool false, .agg #[u, t], .bool true, .bool false, .bool false, .int .i64 x, .bool false, .bool false, .int .i64 x, .bool false, .bool false, .func (.func 56) #[] #[.pointer (some ⟨w.heap.size, 0, none⟩)], (.agg #[.int .i64 c.1.lx, .int .i64 c.1.ly, .int .i64 c.1.lz, .int .i64 c.1.hx, .int .i64 c.1.hy, .int .i64 c.1.hz]), undef, undef, undef, undef, undef, undef, undef, undef, undef, undef, undef, undef, undef, undef, undef, undef, undef, undef, undef, undef, undef, undef, undef, undef, undef, undef, undef, undef, undef, undef], defers := [] })
      (fun x a' _ X Y row hs hgr hr => by obtain ⟨bx, h1, h2, h3⟩ := hs; exact ⟨bx, h1, h2.kept hgr (fun r e => (hr r e).2), h3⟩)
      ?assign ?body ?done ?stop)
    case assign =>
      rintro ll pre c W K ⟨⟨hb, hbb⟩, hB⟩ hK
      simp only [encT]
      gi_wp2
      exact hK _ _ ((KeepsOthers.alloc _ _).from _) (fun M => Keeps.of_grown hB.size (by (repeat (first | exact grow_refl _ | refine grow_ext _ ?_ | refine grow_alloc _ ?_ | refine grow_drew ?_)))) ⟨⟨hb.alloc _, hbb.alloc _⟩, hB.alloc hB.size _⟩ ⟨W.heap.size, hb.lt, World.alloc_heap_new _ _, rfl⟩
    case body =>
      rintro ll pre c a' W hl ⟨r, hr⟩ ⟨⟨hb, hbb⟩, hB⟩ ⟨bx, hbx2, bX, rfl⟩ hlt
      obtain ⟨S, hS⟩ : ∃ S, S = wrap64 (secT x pre) := ⟨_, rfl⟩
      have hb' : Boxed W g 3 (.int .i64 S) := by rw [hS]; exact hb
      have kg := hb'.cell
      have fg := hb'.frozen
      have kx := hbb.cell
      have HS := Lib.hid hS
      have HBX := Lib.hid hb'
      have HBB := Lib.hid hbb
      have HB := Lib.hid hB
      obtain ⟨d0, d1', d2', d3, d4, d5⟩ := bX.cells
      have hcv := valid_iff.1 (thick_iff.1 c.2).1
      have HX := Lib.hid hcv
      have HST := Lib.hid (secT_snoc x pre c)
      by_cases hin : c.1.lx ≤ x ∧ x < c.1.hx
      · have t1 : decide (c.1.lx ≤ x) = true := by simpa using hin.1
        have t2 : decide (x < c.1.hx) = true := by simpa using hin.2
        have HF := Lib.hid (show secF x c.1 = areaB c.1 from if_pos hin)
        clear hS hb hb' hbb hB hcv bX hr hin
        gi_wp2
        refine ⟨(KeepsOthers.setCell _ _ _).from _, keeps_set (by omega) _ _, ⟨?_, HBB.out.other (by omega) _⟩, HB.out.setCell (p := ⟨g, 0, none⟩) (by simp; omega) _⟩
        have hx := HX.out
        have hst := sec_step (s := secT x pre) (b := c.1.hy - c.1.ly) (c := c.1.hz - c.1.lz) (by omega) (by omega)
        unfold secV
        rw [HST.out, HF.out, show areaB c.1 = (c.1.hy - c.1.ly) * (c.1.hz - c.1.lz) from rfl, ← hst, ← HS.out]
        exact HBX.out.set _
      · have HF := Lib.hid (show secF x c.1 = 0 from if_neg hin)
        have HI : Hid (Boxed W g 3 (secV x (pre ++ [c]))) := by
          unfold secV
          rw [HST.out, HF.out, Int.add_zero]; exact hb
        by_cases h1 : c.1.lx ≤ x
        · have t1 : decide (c.1.lx ≤ x) = true := by simpa using h1
          have t2 : decide (x < c.1.hx) = false := by simp; omega
          clear hS hb hb' hbb hB hcv bX hr hin
          gi_wp2
          exact ⟨KeepsFrom.refl _ _, fun M => Keeps.refl _ _ _ _, ⟨HI.out, HBB.out⟩, HB.out⟩
        · have t1 : decide (c.1.lx ≤ x) = false := by simpa using h1
          clear hS hb hb' hbb hB hcv bX hr hin
          gi_wp2
          exact ⟨KeepsFrom.refl _ _, fun M => Keeps.refl _ _ _ _, ⟨HI.out, HBB.out⟩, HB.out⟩
    case done =>
      rintro D xs W hD hS ⟨⟨hb, hbb⟩, hB⟩ hK
      have hsec : secT x xs = sectI l m x := by unfold secT sectI; rw [hS]; rfl
      unfold secV at hb
      rw [hsec] at hb
      have hsi := solid_iff.1 HV.out
      have h1 := sect_bound (m := m) hsi.2.2.1 (by rintro rfl; simp at hsi) x
      rw [i64_in' (n := sectI l m x) (by omega)] at hb
      have kg := hb.cell
      generalize sectI l m x = V at *
      have HK := Lib.hid hK
      have HBK : Hid (Below w.heap.size w (W.putObj D (.deferred none))) := hB.trans (belowK_b (w := w) (Nat.le_refl _) W D _ _ (by have := hB0.size; omega) hK rfl rfl)
      clear hsec hb hbb hK hB hS hsi hB0
      go_wp2
      refine ⟨by simp, .inl ⟨_, _, rfl, run_takeDeferred HK.out, ?_⟩⟩
      refine ⟨.tuple #[.int .i64 V, .int .i64 0], by simp [results, Try.results23, go_sem], ?_⟩
      rw [HR.out]
      exact ⟨rfl, ext_of HBK.out⟩
    case stop =>
      rintro D c pre W _ _ h _
      exact h.elim
  · have HR := Lib.hid (show sectR l m x = (0, 2) by unfold sectR; rw [hv, if_pos rfl, if_neg hx])
    have HV := Lib.hid hv
    clear hv
    by_cases h1 : x < -1048576
    · go_enter Try.func23, Try.ntmps23
      go_wp2_with fail
      go_at_call 30; refine (solidValid_v l m _ _ _ HV.out _ (HL.out.below (by (repeat (first | exact grow_refl _ | refine grow_ext _ ?_ | refine grow_alloc _ ?_ | refine grow_drew ?_)))) (HM.out.below (by (repeat (first | exact grow_refl _ | refine grow_ext _ ?_ | refine grow_alloc _ ?_ | refine grow_drew ?_))))).mono ?_; rintro e w' ⟨rfl, x1, rfl⟩
      go_wp2
      go_ret2
      rw [HR.out]
      exact Ret.of (by (repeat (first | exact grow_refl _ | refine grow_ext _ ?_ | refine grow_alloc _ ?_ | refine grow_drew ?_)))
    · have h2 : 1048576 < x := by omega
      clear hx
      go_enter Try.func23, Try.ntmps23
      go_wp2_with fail
      go_at_call 30; refine (solidValid_v l m _ _ _ HV.out _ (HL.out.below (by (repeat (first | exact grow_refl _ | refine grow_ext _ ?_ | refine grow_alloc _ ?_ | refine grow_drew ?_)))) (HM.out.below (by (repeat (first | exact grow_refl _ | refine grow_ext _ ?_ | refine grow_alloc _ ?_ | refine grow_drew ?_))))).mono ?_; rintro e w' ⟨rfl, x1, rfl⟩
      go_wp2
      go_ret2
      rw [HR.out]
      exact Ret.of (by (repeat (first | exact grow_refl _ | refine grow_ext _ ?_ | refine grow_alloc _ ?_ | refine grow_drew ?_)))

end Go.Proofs.Ytafkibnkpcmmgaa

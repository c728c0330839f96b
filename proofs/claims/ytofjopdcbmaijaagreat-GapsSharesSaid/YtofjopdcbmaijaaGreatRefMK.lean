/- RefM1, RefM2, RefM3, RefM4 in one text. -/
import Derived.Test.YtofjopdcbmaijaaGreatRefLK3
import Derived.Test.YtofjopdcbmaijaaGreatGapK1
import Derived.Test.YtofjopdcbmaijaaGreatGapC
import Derived.Test.YtofjopdcbmaijaaGreatBaseK
import Derived.Test.YtofjopdcbmaijaaGreatGapK3
namespace Go.Proofs.YtofjopdcbmaijaaGreat
open Go.RowKit
set_option maxRecDepth 20000

/-- Some run that holds the number, and the number in it. -/
def RetPlace (w : World) (rs : List Rn) (i : Int) (e : Ending) (W : World) : Prop :=
  ∃ (k : Nat) (hk : k < rs.length) (j : Int), e = .returned (.tuple #[.int .i64 k, .int .i64 j]) ∧ placeR rs i = some (rs[k], j) ∧ (0 ≤ j ∧ j < rs[k].count) ∧ ∃ x, W = ext w x

set_option maxRecDepth 100000 in
set_option maxHeartbeats 2000000 in
theorem refPlace_c (rs : List Rn) (u : Value) (i : Int) (hc : ∀ r ∈ rs, 1 ≤ r.count ∧ r.count ≤ 1000) (h0 : 0 ≤ i) (hi : i < countS rs) (hm : countS rs ≤ 2000) (w : World) (hr : Runs w u rs) :
    Calls Tryz.prog 85 #[u, .int .i64 i] w (RetPlace w rs i) := by
  obtain ⟨a, cap, rfl, h2, h3, h4⟩ := hr.shape
  have H4 := Lib.hid h4
  have HC := Lib.hid hc
  have hne : 0 < rs.length := by
    cases rs with
    | nil => simp only [countS] at hi; omega
    | cons r rs => simp
  have HI := Lib.hid hi
  clear hr h4 hc hi
  go_enter Tryz.func85, Tryz.ntmps85
  go_wp2_with fail
  go_loopw [1, 6] (fun iv kv wr => ∃ (k : Nat) (I : Int), k < rs.length ∧ kv = .int .i64 k ∧ iv = .int .i64 I ∧ (0 ≤ I ∧ I ≤ 2000) ∧ I < countS (rs.drop k) ∧ placeR (rs.drop k) I = placeR rs i ∧ ∃ x, wr = ext w x) (fun _ kv _ => rs.length - (intOf kv).toNat)
  case atStart => exact ⟨0, i, hne, rfl, rfl, by have := HI.out; omega, HI.out, rfl, ext_of (by (repeat (first | exact grow_refl _ | refine grow_ext _ ?_ | refine grow_alloc _ ?_ | refine grow_drew ?_)))⟩
  case round =>
    obtain ⟨k, I, hk, rfl, rfl, ⟨hI0, hI1⟩, hI2, hpl, x, rfl⟩ := hrel
    obtain ⟨_, b0, off, rfl, hbr⟩ := H4.out k hk
    have i1 : (0 : Int) ≤ (k : Int) := by omega
    have i2 : (k : Int) < (rs.length : Int) := by omega
    have hcr := HC.out _ (List.getElem_mem hk)
    have hd := List.drop_eq_getElem_cons hk
    rw [hd, placeR] at hpl
    rw [hd, countS] at hI2
    have hnext : rs[k].count ≤ I → k + 1 < rs.length := fun h => by
      rcases Nat.lt_or_ge (k + 1) rs.length with h1 | h1
      · exact h1
      · rw [List.drop_of_length_le h1, countS] at hI2; omega
    have HN := Lib.hid hnext
    have HP := Lib.hid hpl
    have HI2 := Lib.hid hI2
    clear hd hpl hnext hI2
    obtain ⟨r, hr⟩ : ∃ r, rs[k] = r := ⟨_, rfl⟩
    rw [hr] at hbr hcr HN HP HI2
    have HR := Lib.hid hr
    obtain ⟨c0, c1, c2, c3, c4, c5, c6, c7, c8, c9⟩ := hbr.ext x
    obtain ⟨hc1, hc2⟩ := hcr
    clear hr hbr
    by_cases hlt : I < r.count
    · have d1 : decide (r.count ≤ I) = false := by simp; omega
      go_wp2
      go_ret2
      exact ⟨k, hk, I, rfl, by rw [HR.out, ← HP.out, if_pos hlt], by rw [HR.out]; omega, ext_of (by (repeat (first | exact grow_refl _ | refine grow_ext _ ?_ | refine grow_alloc _ ?_ | refine grow_drew ?_)))⟩
    · have d1 : decide (r.count ≤ I) = true := by simp; omega
      go_wp2
      go_roundw
      case rel => exact ⟨k + 1, I - r.count, HN.out (by omega), by go_num, rfl, by omega, by have := HI2.out; omega, by rw [← HP.out, if_neg hlt], ext_of (by (repeat (first | exact grow_refl _ | refine grow_ext _ ?_ | refine grow_alloc _ ?_ | refine grow_drew ?_)))⟩
      case measure => simp [intOf]; omega

theorem laid_counts {l : List Br} {rs : List Rn} (h : laidB l rs = true) : ∀ r ∈ rs, 1 ≤ r.count ∧ r.count ≤ 1000 := fun r hr => runB_count ((laidB_iff.1 h).2.2.1 r hr)
theorem laid_most {l : List Br} {rs : List Rn} (h : laidB l rs = true) : countS rs ≤ 2000 := (laidB_iff.1 h).2.2.2

set_option maxRecDepth 100000 in
set_option maxHeartbeats 2000000 in
theorem refBar_c (l : List Br) (rs : List Rn) (v u : Value) (i : Int) (hv : laidB l rs = true) (h0 : 0 ≤ i) (hi : i < countS rs) (w : World) (hl : Bars w v l) (hr : Runs w u rs) :
    Calls Tryz.prog 40 #[v, u, .int .i64 i] w (Ret w (.agg #[.string (barOf l (markI rs i)).mark, .int .i64 (barOf l (markI rs i)).size, .int .i64 (barOf l (markI rs i)).count, .int .i64 (barOf l (markI rs i)).code, (barOf l (markI rs i)).dv])) := by
  have HPL := Lib.hid (fun w hr => refPlace_c rs u i (laid_counts hv) h0 hi (laid_most hv) w hr)
  have HL := Lib.hid hl
  have HR := Lib.hid hr
  have HF := Lib.hid (fun w m hl => refFind_c l v m w hl)
  have hmk := (mark_of hv h0 hi).2.1
  obtain ⟨a, cap, rfl, g2, g3, g4⟩ := hl.shape
  obtain ⟨a', cap', rfl, h2, h3, h4⟩ := hr.shape
  have G4 := Lib.hid g4
  have H4 := Lib.hid h4
  have HMK := Lib.hid hmk
  clear hl hr g4 h4 hmk
  go_enter Tryz.func40, Tryz.ntmps40
  go_wp2_with fail
  go_at_call 85; refine (HPL.out _ (HR.out.below (by (repeat (first | exact grow_refl _ | refine grow_ext _ ?_ | refine grow_alloc _ ?_ | refine grow_drew ?_))))).mono ?_; rintro e w' ⟨k, hk, j, rfl, hp, hj, x1, rfl⟩
  obtain ⟨_, b0, off, rfl, hbr⟩ := H4.out k hk
  have i1 : (0 : Int) ≤ (k : Int) := by omega
  have i2 : (k : Int) < (rs.length : Int) := by omega
  have hmr : markI rs i = rs[k].mark := by unfold markI; rw [hp]
  have HMR := Lib.hid hmr
  obtain ⟨r, hr⟩ : ∃ r, rs[k] = r := ⟨_, rfl⟩
  rw [hr] at hbr HMR
  have hk2 := HMK.out
  rw [HMR.out] at hk2
  rcases findI_cases l r.mark with ⟨e1, -⟩ | ⟨q, hq, e1, -, -⟩
  · omega
  have HBO := Lib.hid (show barOf l (markI rs i) = l[q] by
    rw [HMR.out]; unfold barOf; rw [e1]; simp [List.getD, hq])
  obtain ⟨hok, b1, off1, rfl, hbb⟩ := G4.out q hq
  have HFI := Lib.hid (fun w hl => HF.out w r.mark hl)
  rw [e1] at HFI
  have j1 : (0 : Int) ≤ (q : Int) := by omega
  have j2 : (q : Int) < (l.length : Int) := by omega
  obtain ⟨b, hb⟩ : ∃ b, l[q] = b := ⟨_, rfl⟩
  rw [hb] at hbb HBO hok
  have c0 := hbr.1
  obtain ⟨ad, cd, ev, -, -, -⟩ := hok.dims
  obtain ⟨mark, size, count, code, dims, dv⟩ := b
  simp only at ev
  subst ev
  obtain ⟨d0, d1, d2, d3, d4⟩ := hbb
  simp only at d0 d1 d2 d3 d4
  clear hr hbr hk2 e1 hb hmr hp hj HMK HF hok
  go_wp2_with fail
  go_at_call 77; refine (HFI.out _ (HL.out.below (by (repeat (first | exact grow_refl _ | refine grow_ext _ ?_ | refine grow_alloc _ ?_ | refine grow_drew ?_))))).mono ?_; rintro e w' ⟨rfl, x2, rfl⟩
  go_wp2
  rw [HBO.out]
  refine bodyPost_ret (v := .agg #[.string mark, .int .i64 size, .int .i64 count, .int .i64 code, .slice ad dims.length cd]) (by simp [results, Tryz.results40, go_sem]) rfl ?_
  exact Ret.of (by (repeat (first | exact grow_refl _ | refine grow_ext _ ?_ | refine grow_alloc _ ?_ | refine grow_drew ?_)))

def RetPtsO (w : World) (l : List Pt) (e : Ending) (W : World) : Prop := ∃ v, e = .returned v ∧ W.ownsRow w.heap.size 36 3 v l.length (ptCells l) ∧ ∃ x, W = ext w x

set_option maxRecDepth 100000 in
set_option maxHeartbeats 4000000 in
theorem refPts_c (l : List Br) (rs : List Rn) (v u : Value) (i : Int) (hv : laidB l rs = true) (h0 : 0 ≤ i) (hi : i < countS rs) (w : World) (hl : Bars w v l) (hr : Runs w u rs) :
    Calls Tryz.prog 83 #[v, u, .int .i64 i] w (RetPtsO w (pathI l rs i)) := by
  have HPL := Lib.hid (fun w hr => refPlace_c rs u i (laid_counts hv) h0 hi (laid_most hv) w hr)
  have HBA := Lib.hid (fun w hl hr => refBar_c l rs v u i hv h0 hi w hl hr)
  have HL := Lib.hid hl
  have HR := Lib.hid hr
  have HV := Lib.hid hv
  have hmk := mark_of hv h0 hi
  obtain ⟨q, hq, eb⟩ := List.getElem_of_mem (bar_mem hmk.2.1)
  obtain ⟨ba, bcap, rfl, g2, g3, g4⟩ := hl.shape
  have HBO := Lib.hid (show BrOk w (barOf l (markI rs i)) by rw [← eb]; exact (g4 q hq).1)
  have HSH := Lib.hid (schedB_shape (laidB_iff.1 hv).1 _ (bar_mem hmk.2.1))
  obtain ⟨a', cap', rfl, h2, h3, h4⟩ := hr.shape
  have H4 := Lib.hid h4
  clear hl hr h4 g4 eb hmk hv
  go_enter Tryz.func83, Tryz.ntmps83
  go_wp2_with fail
  go_at_call 85; refine (HPL.out _ (HR.out.below (by (repeat (first | exact grow_refl _ | refine grow_ext _ ?_ | refine grow_alloc _ ?_ | refine grow_drew ?_))))).mono ?_; rintro e w' ⟨k, hk, j, rfl, hp, ⟨hj0, hj1⟩, x1, rfl⟩
  obtain ⟨_, b0, off, rfl, hbr⟩ := H4.out k hk
  have i1 : (0 : Int) ≤ (k : Int) := by omega
  have i2 : (k : Int) < (rs.length : Int) := by omega
  have hmr : markI rs i = rs[k].mark := by unfold markI; rw [hp]
  have hpi : pathI l rs i = laidL (barOf l (markI rs i)) rs[k] j := by unfold pathI; rw [hp, hmr]
  have HPI := Lib.hid hpi
  have hrb := (laidB_iff.1 HV.out).2.2.1 _ (List.getElem_mem hk)
  obtain ⟨r, hr⟩ : ∃ r, rs[k] = r := ⟨_, rfl⟩
  rw [hr] at hbr HPI hrb hj1
  have hct := runB_count hrb
  rw [runB_eq] at hrb
  simp only [right1, right2, Bool.and_eq_true, Bool.or_eq_true, decide_eq_true_iff] at hrb
  obtain ⟨⟨_, ht, _, _, ha⟩, hs2, _⟩ := hrb
  have HPT := Lib.hid (fun w hb => refPoints_c (barOf l (markI rs i)) r j HSH.out ht (near_iff.1 ha) (by omega) (fun h => by
    rcases hs2 with h' | h'
    · omega
    · exact near_iff.1 h'.2) w hb)
  obtain ⟨b, hb⟩ : ∃ b, barOf l (markI rs i) = b := ⟨_, rfl⟩
  rw [hb] at HBA HBO HPT HPI
  obtain ⟨c0, c1, c2, c3, c4, c5, c6, c7, c8, c9⟩ := hbr.ext x1
  clear hr hbr hp hmr hpi ht ha hs2 hb HSH hct
  go_wp2_with fail
  refine wp_region_tail 9 (by kernel_rfl) (by kernel_rfl) ?_; simp only [List.take_succ_cons, List.take_zero, List.drop_succ_cons, List.drop_zero]
  repeat (go_big_quiet_step ((go_at_call 40; exact Calls.quiet_ext (HBA.out _ (HL.out.below (by (repeat (first | exact grow_refl _ | refine grow_ext _ ?_ | refine grow_alloc _ ?_ | refine grow_drew ?_)))) (HR.out.below (by (repeat (first | exact grow_refl _ | refine grow_ext _ ?_ | refine grow_alloc _ ?_ | refine grow_drew ?_))))))))
  refine wpQuiet_nil ?_; rintro _ ⟨xq, rfl⟩
  go_wp2_with fail
  go_at_call 82; refine (HPT.out _ (HBO.out.below (by (repeat (first | exact grow_refl _ | refine grow_ext _ ?_ | refine grow_alloc _ ?_ | refine grow_drew ?_))))).mono ?_; rintro e w' ⟨v9, rfl, hown, x9, rfl⟩
  go_wp2
  go_ret
  exact ⟨v9, rfl, by rw [HPI.out]; exact own_mono hown (by simp only [size_ext]; omega), ext_of (by (repeat (first | exact grow_refl _ | refine grow_ext _ ?_ | refine grow_alloc _ ?_ | refine grow_drew ?_)))⟩

end Go.Proofs.YtofjopdcbmaijaaGreat

namespace Go.Proofs.YtofjopdcbmaijaaGreat
open Go.RowKit
set_option maxRecDepth 20000

set_option maxRecDepth 100000 in
set_option maxHeartbeats 4000000 in
theorem refHull2_c (p q : Pt) (v : Value) (w : World) (hv : Pts w v [p, q]) : Calls Tryz.prog 84 #[v] w (Ret w (.agg #[.int .i64 (legB p q).lx, .int .i64 (legB p q).ly, .int .i64 (legB p q).lz, .int .i64 (legB p q).hx, .int .i64 (legB p q).hy, .int .i64 (legB p q).hz])) := by
  obtain ⟨a, cap, rfl, h2, h3, h4⟩ := hv.shape
  obtain ⟨b0, off, rfl, p0, p1, p2⟩ := h4 0 (by simp)
  obtain ⟨b1, off1, e1, q0, q1, q2⟩ := h4 1 (by simp)
  cases e1
  simp only [List.getElem_cons_zero, List.getElem_cons_succ, List.length_cons, List.length_nil, Nat.zero_mul, Nat.one_mul, Nat.add_zero, Nat.zero_add] at p0 p1 p2 q0 q1 q2 h2 ⊢
  have HE := Lib.hid (show legB p q = ⟨min p.x q.x, min p.y q.y, min p.z q.z, max p.x q.x, max p.y q.y, max p.z q.z⟩ from rfl)
  clear hv h4
  go_enter Tryz.func84, Tryz.ntmps84
  go_wp2_with fail
  go_region
  go_wp2_with fail
  refine wp_loop_rounds 2 ?_
  rw [rounds_succ]
  go_wp2
  rw [rounds_succ]
  go_wp2
  rw [HE.out]
  refine bodyPost_ret (v := (.agg #[.int .i64 (⟨min p.x q.x, min p.y q.y, min p.z q.z, max p.x q.x, max p.y q.y, max p.z q.z⟩ : Bx).lx, .int .i64 (⟨min p.x q.x, min p.y q.y, min p.z q.z, max p.x q.x, max p.y q.y, max p.z q.z⟩ : Bx).ly, .int .i64 (⟨min p.x q.x, min p.y q.y, min p.z q.z, max p.x q.x, max p.y q.y, max p.z q.z⟩ : Bx).lz, .int .i64 (⟨min p.x q.x, min p.y q.y, min p.z q.z, max p.x q.x, max p.y q.y, max p.z q.z⟩ : Bx).hx, .int .i64 (⟨min p.x q.x, min p.y q.y, min p.z q.z, max p.x q.x, max p.y q.y, max p.z q.z⟩ : Bx).hy, .int .i64 (⟨min p.x q.x, min p.y q.y, min p.z q.z, max p.x q.x, max p.y q.y, max p.z q.z⟩ : Bx).hz])) (by simp [results, Tryz.results84, go_sem]) rfl ?_
  exact Ret.of (by (repeat (first | exact grow_refl _ | refine grow_ext _ ?_ | refine grow_alloc _ ?_ | refine grow_drew ?_)))

def RetBxsO (w : World) (l : List Bx) (e : Ending) (W : World) : Prop := ∃ v, e = .returned v ∧ W.ownsRow w.heap.size 38 6 v l.length (boxCells l) ∧ ∃ x, W = ext w x

set_option maxRecDepth 100000 in
set_option maxHeartbeats 4000000 in
theorem refLegs_c (l : List Br) (rs : List Rn) (v u : Value) (i : Int) (hv : laidB l rs = true) (h0 : 0 ≤ i) (hi : i < countS rs) (w : World) (hl : Bars w v l) (hr : Runs w u rs) :
    Calls Tryz.prog 38 #[v, u, .int .i64 i] w (RetBxsO w (legsI l rs i)) := by
  have HP := Lib.hid (fun w hl hr => refPts_c l rs v u i hv h0 hi w hl hr)
  have HL := Lib.hid hl
  have HR := Lib.hid hr
  have hlen := pathI_len l rs i
  have HI := Lib.hid (show legsI l rs i = legsP (pathI l rs i) from rfl)
  obtain ⟨P, hP⟩ : ∃ P, pathI l rs i = P := ⟨_, rfl⟩
  rw [hP] at HP HI hlen
  clear hv h0 hi hP hl hr
  go_enter Tryz.func38, Tryz.ntmps38
  go_wp2_with fail
  go_at_call 83; refine (HP.out _ (HL.out.below (by (repeat (first | exact grow_refl _ | refine grow_ext _ ?_ | refine grow_alloc _ ?_ | refine grow_drew ?_)))) (HR.out.below (by (repeat (first | exact grow_refl _ | refine grow_ext _ ?_ | refine grow_alloc _ ?_ | refine grow_drew ?_))))).mono ?_; rintro e w' ⟨v8, rfl, hown0, x1, rfl⟩
  have hpt := Pts.of_own hown0
  obtain ⟨a, cap, rfl, h2, h3, h4⟩ := hpt.shape
  have H4 := Lib.hid h4
  clear hpt h4 hown0
  go_wp2_with fail
  go_loopw [8, 9] (fun v i wr => ∃ k : Nat, 1 ≤ k ∧ (k ≤ P.length ∨ k = 1) ∧ i = .int .i64 k ∧ (∃ x, wr = ext (ext w x1) x) ∧ wr.ownsRow (ext w x1).heap.size 38 6 v (k - 1) (boxCells (legsP (P.take k)))) (fun _ i _ => P.length - (intOf i).toNat)
  case atStart => exact ⟨1, by omega, .inr rfl, by go_num, ext_of (Below.refl _ _), by cases P with | nil => exact World.ownsRow_nil _ _ _ _ | cons p P => exact World.ownsRow_nil _ _ _ _⟩
  case round =>
    obtain ⟨k, hk1, hk, rfl, ⟨x, rfl⟩, hown⟩ := hrel
    have HO := Lib.hid hown
    obtain ⟨av, cv, rfl, hv1, hv2, -⟩ := own_shape hown
    have hv3 : cv ≤ 9223372036854775807 := hv2
    by_cases hlt : k < P.length
    · have q1 : (1 : Int) ≤ (k : Int) := by omega
      have q2 : (k : Int) < (P.length : Int) := by omega
      obtain ⟨b, off, rfl, hp0⟩ := H4.out (k - 1) (by omega)
      have q3 : 0 ≤ (k : Int) - 1 := by omega
      have q4 : (k : Int) - 1 ≤ (k : Int) + 1 := by omega
      have q5 : (k : Int) + 1 ≤ (cap : Int) := by omega
      have q6 : ((k : Int) + 1).toNat = k + 1 := by omega
      have hpair : Pts (ext (ext w x1) x) (.slice (some ⟨b, off + (k - 1) * 3, none⟩) 2 (cap - (k - 1))) [P[k - 1], P[k]] := by
        refine ⟨_, _, rfl, by simp; omega, by omega, fun j hj => ⟨b, _, rfl, ?_⟩⟩
        obtain ⟨b', off', e', hq0⟩ := H4.out k hlt
        cases e'
        rcases (show j = 0 ∨ j = 1 by simp at hj; omega) with rfl | rfl
        · exact hp0.ext x
        · rw [show off + (k - 1) * 3 + 1 * 3 = off + k * 3 by omega]; exact hq0.ext x
      have hlt2 := legsP_take hk1 hlt
      generalize P[k - 1] = p at *
      generalize P[k] = q at *
      have HPA := Lib.hid hpair
      have HLT := Lib.hid hlt2
      have hll := legsP_len (P.take k)
      rw [List.length_take] at hll
      have HLL := Lib.hid (show k - 1 = (legsP (P.take k)).length by omega)
      have HH := Lib.hid (fun v w hl => refHull2_c p q v w hl)
      generalize legB p q = L at *
      clear hown hpair hlt2 hp0 hll
      go_wp2_with fail
      rw [show k + 1 - (k - 1) = 2 by omega]
      go_at_call 84; refine (HH.out _ _ HPA.out).mono ?_; rintro e w' ⟨rfl, x3, rfl⟩
      go_wp2_with (at_builtin; refine app_own_b rfl _ _ 26 rfl 38 (.agg #[.int .i64 0, .int .i64 0, .int .i64 0, .int .i64 0, .int .i64 0, .int .i64 0]) 6 48 Tryz.underlying26 info_box' rfl (by decide) ((ext w x1).heap.size) (.slice av (k - 1) cv) (k - 1) (boxCells (legsP (P.take k))) _ rfl ((own_ext HO.out _).alloc _) _ 1 1 (boxCells [L]) rfl rfl (cells_new ?_ _ _ _ rfl) (boxCells_one _) (by omega) (by decide) ?_ ?_; (first | rfl | simp [size_ext]); (simp only [World.size_alloc, size_ext]; omega); intro v' w1 hown' hgrow; have HO2 := Lib.hid hown'; obtain ⟨a', c', rfl, _, hc2, -⟩ := own_shape hown'; have hc3 : c' ≤ 9223372036854775807 := hc2; have HGR := Lib.hid hgrow; clear hown' hgrow hc2)
      go_roundw
      case rel =>
        refine ⟨k + 1, by omega, .inl (by omega), by go_num, ?_, ?_⟩
        · exact ext_grown2 (w := ext w x1) (grow_alloc _ (grow_ext _ (below_ext _ _))) HGR.out (fun j e => (HO.out.lt j e).1)
        · rw [HLT.out]
          have := own_bxs HO2.out HLL.out
          rw [List.length_append, ← HLL.out, List.length_singleton, show k - 1 + 1 = k by omega] at this
          rw [show k + 1 - 1 = k by omega]
          exact this
      case measure => simp [intOf]; omega
    · have hkl : P.length ≤ k := by omega
      have HF := Lib.hid (show legsP (P.take k) = legsP P by rw [List.take_of_length_le hkl])
      have hll := legsP_len P
      have HLL := Lib.hid (show k - 1 = (legsP P).length by omega)
      clear hown hll
      go_wp2
      go_ret
      exact ⟨_, rfl, by rw [HI.out, ← HLL.out, ← HF.out]; exact own_mono HO.out (by simp only [size_ext]; omega), ext_of (by (repeat (first | exact grow_refl _ | refine grow_ext _ ?_ | refine grow_alloc _ ?_ | refine grow_drew ?_)))⟩

end Go.Proofs.YtofjopdcbmaijaaGreat

namespace Go.Proofs.YtofjopdcbmaijaaGreat
open Go.RowKit
set_option maxRecDepth 20000

theorem info_rc : (Tryz.prog.info? 40).map (fun i => (i.zero, i.size, i.bytes)) = some (some (.agg #[.int .i64 0, .int .i64 0, .int .i64 0, .int .i64 0, .int .i64 0, .int .i64 0, .int .i64 0]), 7, 56) := by kernel_rfl
def rcOf (d x i : Int) (b : Bx) : Option Rc := if alongB x b = true then some ⟨cutBox d x b, i⟩ else none
def rcAt (l : List Br) (rs : List Rn) (x : Int) (i : Nat) : List Rc := (legsI l rs i).filterMap (rcOf (sizeI l rs i) x i)
def rcTo (l : List Br) (rs : List Rn) (x : Int) (n : Nat) : List Rc := (List.range n).flatMap (rcAt l rs x)
def rcI (l : List Br) (rs : List Rn) (x : Int) : List Rc := rcTo l rs x (countS rs).toNat
theorem rcTo_succ (l : List Br) (rs : List Rn) (x : Int) (n : Nat) : rcTo l rs x (n + 1) = rcTo l rs x n ++ rcAt l rs x n := by
  unfold rcTo
  rw [List.range_succ, List.flatMap_append]; simp
/-- The cut that the reference's cut stands for. -/
def ctOf (l : List Br) (rs : List Rn) (c : Rc) : Ct := ⟨c.box, sizeI l rs c.bar, markI rs c.bar⟩
theorem rcAt_ct (l : List Br) (rs : List Rn) (x : Int) (i : Nat) : (rcAt l rs x i).map (ctOf l rs) = cutsAt l rs x i := by
  unfold rcAt cutsAt
  rw [List.map_filterMap]
  congr 1
  funext b
  unfold rcOf cutOf
  split <;> rfl
theorem rcTo_ct (l : List Br) (rs : List Rn) (x : Int) (n : Nat) : (rcTo l rs x n).map (ctOf l rs) = cutsTo l rs x n := by
  induction n with
  | zero => rfl
  | succ n ih => rw [rcTo_succ, cutsTo_succ, List.map_append, ih, rcAt_ct]
theorem rcI_ct (l : List Br) (rs : List Rn) (x : Int) : (rcI l rs x).map (ctOf l rs) = cutsI l rs x := rcTo_ct l rs x _
theorem rcTo_len (l : List Br) (rs : List Rn) (x : Int) (n : Nat) : (rcTo l rs x n).length ≤ 6 * n := by
  have := cutsTo_len l rs x n
  rw [← rcTo_ct, List.length_map] at this
  exact this
theorem rcI_bar {l : List Br} {rs : List Rn} {x : Int} (h0 : 0 ≤ countS rs) : ∀ c ∈ rcI l rs x, 0 ≤ c.bar ∧ c.bar < countS rs := by
  intro c hc
  unfold rcI rcTo at hc
  obtain ⟨i, hi, hci⟩ := List.mem_flatMap.1 hc
  have hi := List.mem_range.1 hi
  unfold rcAt at hci
  obtain ⟨b, _, hcb⟩ := List.mem_filterMap.1 hci
  unfold rcOf at hcb
  split at hcb
  · cases hcb; simp only; omega
  · cases hcb
theorem filter_take_rc {f : Bx → Option Rc} {L : List Bx} {k : Nat} (h : k < L.length) : (L.take (k + 1)).filterMap f = (L.take k).filterMap f ++ (match f L[k] with | some c => [c] | none => []) := by
  rw [List.take_succ_eq_append_getElem h, List.filterMap_append]
  cases e : f L[k] <;> simp [e]

def along3 (b : Bx) : Bool := decide (b.lx < b.hx) && (decide (b.ly = b.hy) && decide (b.lz = b.hz))
set_option maxHeartbeats 1000000 in
theorem refAlong21_v (b : Bx) (r : Bool) (h : along3 b = r) (w : World) : Calls Tryz.prog 41 #[(.agg #[.int .i64 b.lx, .int .i64 b.ly, .int .i64 b.lz, .int .i64 b.hx, .int .i64 b.hy, .int .i64 b.hz])] w (Ret w (.bool r)) := by
  unfold along3 at h
  cases h1 : decide (b.lx < b.hx)
  · rw [h1, Bool.false_and] at h
    subst h
    go_enter Tryz.func41, Tryz.ntmps41
    go_wp2
    go_ret
    exact Ret.of (by (repeat (first | exact grow_refl _ | refine grow_ext _ ?_ | refine grow_alloc _ ?_ | refine grow_drew ?_)))
  · rw [h1, Bool.true_and] at h
    by_cases h2 : b.ly = b.hy
    · have e2 : (b.ly == b.hy) = true := by simpa using h2
      rw [decide_eq_true h2, Bool.true_and] at h
      have e3 : (b.lz == b.hz) = r := by rw [← h]; rfl
      clear h h2
      go_enter Tryz.func41, Tryz.ntmps41
      go_wp2
      go_ret
      exact Ret.of (by (repeat (first | exact grow_refl _ | refine grow_ext _ ?_ | refine grow_alloc _ ?_ | refine grow_drew ?_)))
    · have e2 : (b.ly == b.hy) = false := by simpa using h2
      rw [decide_eq_false h2, Bool.false_and] at h
      subst h
      clear h2
      go_enter Tryz.func41, Tryz.ntmps41
      go_wp2
      go_ret
      exact Ret.of (by (repeat (first | exact grow_refl _ | refine grow_ext _ ?_ | refine grow_alloc _ ?_ | refine grow_drew ?_)))

theorem refRound21_c (d : Int) (hd : 0 ≤ d ∧ d ≤ 1000000) (w : World) : Calls Tryz.prog 39 #[.int .i64 d] w (Ret w (.int .i64 (halfI d))) := by
  have e : Int.tdiv (d + 1) 2 = (d + 1) / 2 := Int.tdiv_eq_ediv_of_nonneg (by omega)
  unfold halfI
  go_enter Tryz.func39, Tryz.ntmps39
  go_wp2
  go_ret
  exact Ret.of (by (repeat (first | exact grow_refl _ | refine grow_ext _ ?_ | refine grow_alloc _ ?_ | refine grow_drew ?_)))

theorem run_bar_size (mark : ByteArray) (size count code : Int) (ad : Option Addr) (n cd : Nat) (w : World) :
    (Instr.field 70 (.agg #[.string mark, .int .i64 size, .int .i64 count, .int .i64 code, .slice ad n cd]) 1).run Tryz.prog w = .ok (.int .i64 size) w := by kernel_rfl
theorem run_bar_mark (mark : ByteArray) (size count code : Int) (ad : Option Addr) (n cd : Nat) (w : World) :
    (Instr.field 70 (.agg #[.string mark, .int .i64 size, .int .i64 count, .int .i64 code, .slice ad n cd]) 0).run Tryz.prog w = .ok (.string mark) w := by kernel_rfl
attribute [local go_sem] run_bar_size

def RetRcs (w : World) (l : List Rc) (e : Ending) (W : World) : Prop := ∃ v, e = .returned v ∧ W.ownsRow w.heap.size 40 7 v l.length (rcCells l) ∧ ∃ x, W = ext w x

set_option maxRecDepth 100000 in
set_option maxHeartbeats 8000000 in
theorem refCuts21_c (l : List Br) (rs : List Rn) (v u : Value) (x : Int) (hv : laidB l rs = true) (hx : -1048576 ≤ x ∧ x ≤ 1048576) (w : World) (hl : Bars w v l) (hr : Runs w u rs) :
    Calls Tryz.prog 12 #[v, u, .int .i64 x] w (RetRcs w (rcI l rs x)) := by
  have HL := Lib.hid hl
  have HR := Lib.hid hr
  have HV := Lib.hid hv
  have HCO := Lib.hid (fun w hr => refCount16_c rs u (laidB_iff.1 hv).2.1 (laid_counts hv) w hr)
  have hcl := count_le hv rs.length
  rw [List.take_length] at hcl
  obtain ⟨k0, _, k2⟩ := hcl
  have HCI := Lib.hid (show rcI l rs x = rcTo l rs x (countS rs).toNat from rfl)
  obtain ⟨N, hN⟩ : ∃ N, countS rs = N := ⟨_, rfl⟩
  rw [hN] at HCO k0 k2 HCI
  have HN := Lib.hid hN
  obtain ⟨x0, x1⟩ := hx
  clear hl hr hv hN
  go_enter Tryz.func12, Tryz.ntmps12
  go_wp2_with fail
  go_loopw [7, 8] (fun v i wr => ∃ k : Nat, (k : Int) ≤ N ∧ i = .int .i64 k ∧ (∃ y, wr = ext w y) ∧ wr.ownsRow w.heap.size 40 7 v (rcTo l rs x k).length (rcCells (rcTo l rs x k))) (fun _ i _ => N.toNat - (intOf i).toNat)
  case atStart => exact ⟨0, by omega, rfl, ext_of (Below.refl _ _), World.ownsRow_nil _ _ _ _⟩
  case round =>
    obtain ⟨k, hk, rfl, ⟨y, rfl⟩, hown⟩ := hrel
    have HO := Lib.hid hown
    obtain ⟨av, cv, rfl, hv1, hv2, -⟩ := own_shape hown
    have hv3 : cv ≤ 9223372036854775807 := hv2
    clear hown
    by_cases hlt : (k : Int) < N
    · have q1 : (0 : Int) ≤ (k : Int) := by omega
      have q2 : (k : Int) < countS rs := by rw [HN.out]; exact hlt
      have hsz := size_of HV.out q1 q2
      have HLG := Lib.hid (fun w hl hr => refLegs_c l rs v u k HV.out q1 q2 w hl hr)
      have HBA := Lib.hid (fun w hl hr => refBar_c l rs v u k HV.out q1 q2 w hl hr)
      have HLV := Lib.hid (legsI_valid HV.out q1 q2)
      have HCS := Lib.hid (rcTo_succ l rs x k)
      have hca : rcAt l rs x k = (legsI l rs k).filterMap (rcOf (sizeI l rs k) x k) := rfl
      rw [hca] at HCS
      have HCL := Lib.hid (rcTo_len l rs x k)
      have hll : (legsI l rs k).length ≤ 6 := by
        have h2 := pathI_len l rs k
        have h3 : (legsI l rs k).length = (pathI l rs k).length - 1 := legsP_len _
        omega
      have hd6 := size_iff.1 hsz
      have HRD := Lib.hid (fun w => refRound21_c (sizeI l rs k) (by omega) w)
      have hh : 0 ≤ halfI (sizeI l rs k) ∧ halfI (sizeI l rs k) ≤ 20 := by unfold halfI; omega
      obtain ⟨h0, h20⟩ := hh
      have hbs : (barOf l (markI rs k)).size = sizeI l rs k := rfl
      obtain ⟨qq, hqq, eb⟩ := List.getElem_of_mem (bar_mem (mark_of HV.out q1 q2).2.1)
      obtain ⟨_, _, -, -, -, g4⟩ := HL.out.shape
      obtain ⟨ad, cd, ev, -, -, -⟩ := (g4 qq hqq).1.dims
      rw [eb] at ev
      clear g4 eb hqq
      obtain ⟨b, hb⟩ : ∃ b, barOf l (markI rs k) = b := ⟨_, rfl⟩
      rw [hb] at HBA hbs ev
      generalize rcTo l rs x k = CT at *
      generalize hlg : legsI l rs k = LG at *
      obtain ⟨D, hD⟩ : ∃ D, sizeI l rs k = D := ⟨_, rfl⟩
      rw [hD] at HCS HRD h0 h20 hbs
      obtain ⟨mark, size, count, code, dims, dv⟩ := b
      simp only at hbs ev
      subst hbs ev
      obtain ⟨H, hH⟩ : ∃ H, halfI size = H := ⟨_, rfl⟩
      rw [hH] at HRD h0 h20
      have HH := Lib.hid hH
      clear hsz hca hlg hH q2 hb hd6 hD
      go_wp2_with fail
      go_at_call 37; refine (HCO.out _ (HR.out.below (by (repeat (first | exact grow_refl _ | refine grow_ext _ ?_ | refine grow_alloc _ ?_ | refine grow_drew ?_))))).mono ?_; rintro e w' ⟨rfl, y0, rfl⟩
      go_wp2_with fail
      go_at_call 38; refine (HLG.out _ (HL.out.below (by (repeat (first | exact grow_refl _ | refine grow_ext _ ?_ | refine grow_alloc _ ?_ | refine grow_drew ?_)))) (HR.out.below (by (repeat (first | exact grow_refl _ | refine grow_ext _ ?_ | refine grow_alloc _ ?_ | refine grow_drew ?_))))).mono ?_; rintro e w' ⟨v15, rfl, hown15, y1, rfl⟩
      have HO15 := Lib.hid (own_mono (base' := w.heap.size) hown15 (by rw [size_ext, size_ext]; omega))
      obtain ⟨a15, c15, rfl, k15, m15, -⟩ := own_shape hown15
      have n15 : c15 ≤ 9223372036854775807 := m15
      clear hown15
      go_wp2_with fail
      go_at_call 40; refine (HBA.out _ (HL.out.below (by (repeat (first | exact grow_refl _ | refine grow_ext _ ?_ | refine grow_alloc _ ?_ | refine grow_drew ?_)))) (HR.out.below (by (repeat (first | exact grow_refl _ | refine grow_ext _ ?_ | refine grow_alloc _ ?_ | refine grow_drew ?_))))).mono ?_; rintro e w' ⟨rfl, y2, rfl⟩
      go_wp2_with fail
      go_at_call 39; refine (HRD.out _).mono ?_; rintro e w' ⟨rfl, y3, rfl⟩
      go_wp2_with fail
      refine world_mask (fun W => (∃ z, W = ext w z) ∧ W.ownsRow w.heap.size 38 6 (.slice a15 LG.length c15) LG.length (boxCells LG) ∧ W.ownsRow w.heap.size 40 7 (.slice av CT.length cv) CT.length (rcCells CT)) _ ⟨ext_of (by (repeat (first | exact grow_refl _ | refine grow_ext _ ?_ | refine grow_alloc _ ?_ | refine grow_drew ?_))), own_ext (own_ext HO15.out _) _, own_ext (own_ext (own_ext (own_ext HO.out _) _) _) _⟩ ?_
      clear HO15 HO
      rintro W2 ⟨hz, hbx, hro⟩
      go_loopw [7, 11] (fun v i wr => ∃ j : Nat, j ≤ LG.length ∧ i = .int .i64 j ∧ (∃ z, wr = ext w z) ∧ wr.ownsRow w.heap.size 38 6 (.slice a15 LG.length c15) LG.length (boxCells LG) ∧ wr.ownsRow w.heap.size 40 7 v (CT ++ (LG.take j).filterMap (rcOf size x k)).length (rcCells (CT ++ (LG.take j).filterMap (rcOf size x k)))) (fun _ i _ => LG.length - (intOf i).toNat)
      case atStart => exact ⟨0, by omega, rfl, hz, hbx, by simpa using hro⟩
      case round =>
        clear hro hz hbx
        obtain ⟨j, hj, rfl, ⟨z, rfl⟩, hbx4, hown4⟩ := hrel
        have HBX := Lib.hid hbx4
        obtain ⟨a', c', e', _, _, hbc⟩ := Boxes.of_own hbx4
        cases e'
        have HBC := Lib.hid hbc
        clear hbc hbx4
        have HO4 := Lib.hid hown4
        obtain ⟨av, cv, rfl, hv1, hv2, -⟩ := own_shape hown4
        have hv3 : cv ≤ 9223372036854775807 := hv2
        have hfl := List.length_filterMap_le (rcOf size x k) (LG.take j)
        rw [List.length_take] at hfl
        have hlb : (CT ++ (LG.take j).filterMap (rcOf size x k)).length ≤ 12006 := by rw [List.length_append]; have := HCL.out; omega
        clear hown4 hfl
        by_cases hltj : j < LG.length
        · have q5 : (0 : Int) ≤ (j : Int) := by omega
          have q6 : (j : Int) < (LG.length : Int) := by omega
          obtain ⟨b0, off, rfl, hbx⟩ := HBC.out j hltj
          have hft := filter_take_rc (f := rcOf size x k) hltj
          have hbv := HLV.out _ (List.getElem_mem hltj)
          obtain ⟨b, hb⟩ : ∃ b, LG[j] = b := ⟨_, rfl⟩
          rw [hb] at hbx hft hbv
          obtain ⟨c0, c1, c2, c3, c4, c5⟩ := hbx
          have HFT : Hid (CT ++ (LG.take (j + 1)).filterMap (rcOf size x k) = (CT ++ (LG.take j).filterMap (rcOf size x k)) ++ (match rcOf size x k b with | some c => [c] | none => [])) := by rw [hft, List.append_assoc]; exact Lib.hid rfl
          generalize CT ++ (LG.take j).filterMap (rcOf size x k) = L at *
          have hvb := valid_iff.1 hbv
          obtain ⟨v1, v2, v3, v4, v5, v6, v7, v8, v9⟩ := hvb
          clear hb hft hbv
          cases g3 : along3 b
          · have HA := Lib.hid (fun w => refAlong21_v b false g3 w)
            have HNO := Lib.hid (show (match rcOf size x k b with | some c => [c] | none => []) = [] by
              have : alongB x b = false := by
                unfold along3 at g3; unfold alongB
                cases e1 : decide (b.lx < b.hx)
                · rfl
                · rw [e1, Bool.true_and] at g3
                  rw [← Bool.and_assoc (decide (b.ly = b.hy)), g3]; rfl
              unfold rcOf; rw [this]; rfl)
            clear g3
            go_wp2_with fail
            go_at_call 41; refine (HA.out _).mono ?_; rintro e w' ⟨rfl, y4, rfl⟩
            go_wp2
            go_roundw
            case rel => exact ⟨j + 1, by omega, by go_num, ext_of (grow_ext _ (grow_alloc _ (below_ext _ _))), own_ext (HBX.out.alloc _) _, by rw [HFT.out, HNO.out, List.append_nil]; exact own_ext (HO4.out.alloc _) _⟩
            case measure => simp [intOf]; omega
          · have HA := Lib.hid (fun w => refAlong21_v b true g3 w)
            have g3' := g3
            unfold along3 at g3'
            simp only [Bool.and_eq_true, decide_eq_true_iff] at g3'
            obtain ⟨f1, f2, f3⟩ := g3'
            have HAB := Lib.hid (show alongB x b = (decide (b.lx ≤ x) && decide (x ≤ b.hx)) by
              unfold alongB inI; rw [decide_eq_true f1, decide_eq_true f2, decide_eq_true f3]; rfl)
            have HF := Lib.hid (show b.ly = b.hy ∧ b.lz = b.hz from ⟨f2, f3⟩)
            clear g3 f2 f3
            cases e1 : decide (b.lx ≤ x)
            · have HNO := Lib.hid (show (match rcOf size x k b with | some c => [c] | none => []) = [] by unfold rcOf; rw [HAB.out, e1]; rfl)
              go_wp2_with fail
              go_at_call 41; refine (HA.out _).mono ?_; rintro e w' ⟨rfl, y4, rfl⟩
              go_wp2
              go_roundw
              case rel => exact ⟨j + 1, by omega, by go_num, ext_of (grow_ext _ (grow_alloc _ (below_ext _ _))), own_ext (HBX.out.alloc _) _, by rw [HFT.out, HNO.out, List.append_nil]; exact own_ext (HO4.out.alloc _) _⟩
              case measure => simp [intOf]; omega
            · cases e2 : decide (x ≤ b.hx)
              · have HNO := Lib.hid (show (match rcOf size x k b with | some c => [c] | none => []) = [] by unfold rcOf; rw [HAB.out, e1, e2]; rfl)
                go_wp2_with fail
                go_at_call 41; refine (HA.out _).mono ?_; rintro e w' ⟨rfl, y4, rfl⟩
                go_wp2
                go_roundw
                case rel => exact ⟨j + 1, by omega, by go_num, ext_of (grow_ext _ (grow_alloc _ (below_ext _ _))), own_ext (HBX.out.alloc _) _, by rw [HFT.out, HNO.out, List.append_nil]; exact own_ext (HO4.out.alloc _) _⟩
                case measure => simp [intOf]; omega
              · have HYES := Lib.hid (show (match rcOf size x k b with | some c => [c] | none => []) = [⟨⟨x, b.ly - H, b.lz - H, x, b.hy + H, b.hz + H⟩, k⟩] by
                  unfold rcOf; rw [HAB.out, e1, e2]; simp only [Bool.true_and, if_true, cutBox, HH.out, HF.out.1, HF.out.2])
                go_wp2_with fail
                go_at_call 41; refine (HA.out _).mono ?_; rintro e w' ⟨rfl, y4, rfl⟩
                go_wp2_with (at_builtin; refine app_own_b rfl _ _ 33 rfl 40 (.agg #[.int .i64 0, .int .i64 0, .int .i64 0, .int .i64 0, .int .i64 0, .int .i64 0, .int .i64 0]) 7 56 Tryz.underlying33 info_rc rfl (by decide) (w.heap.size) (.slice av L.length cv) (L.length) (rcCells L) _ rfl (((own_ext (HO4.out.alloc _) _).alloc _)) _ 1 1 (rcCells [⟨⟨x, b.ly - H, b.lz - H, x, b.hy + H, b.hz + H⟩, k⟩]) rfl rfl (cells_new ?_ _ _ _ rfl) (rcCells_one _) (by omega) (by decide) ?_ ?_; (first | rfl | simp [size_ext]); (simp only [World.size_alloc, size_ext]; omega); intro v' w1 hown' hgrow; have HO2 := Lib.hid hown'; obtain ⟨a', c', rfl, _, hc2, -⟩ := own_shape hown'; have hc3 : c' ≤ 9223372036854775807 := hc2; have HGR := Lib.hid hgrow; clear hown' hgrow hc2)
                go_roundw
                case rel =>
                  refine ⟨j + 1, by omega, by go_num, ?_, ?_, ?_⟩
                  · exact ext_grown2 (grow_alloc _ (grow_ext _ (grow_alloc _ (below_ext _ _)))) HGR.out (fun q e => (HO4.out.lt q e).1)
                  · exact ((own_ext (HBX.out.alloc _) y4).alloc _).kept HGR.out (own_ne HBX.out HO4.out (by decide))
                  · rw [HFT.out, HYES.out]
                    exact own_rcs HO2.out rfl
                case measure => simp [intOf]; omega
        · obtain rfl : j = LG.length := by omega
          rw [List.take_length] at HO4
          clear hlb
          go_wp2
          go_roundw
          case rel => exact ⟨k + 1, by omega, by go_num, ⟨_, rfl⟩, by rw [HCS.out]; simp only [List.take_length]; exact HO4.out⟩
          case measure => simp [intOf]; omega
    · obtain rfl : (k : Int) = N := by omega
      go_wp2_with fail
      go_at_call 37; refine (HCO.out _ (HR.out.below (by (repeat (first | exact grow_refl _ | refine grow_ext _ ?_ | refine grow_alloc _ ?_ | refine grow_drew ?_))))).mono ?_; rintro e w' ⟨rfl, y0, rfl⟩
      go_wp2
      go_ret
      rw [HCI.out]
      exact ⟨_, rfl, own_ext HO.out _, ext_of (by (repeat (first | exact grow_refl _ | refine grow_ext _ ?_ | refine grow_alloc _ ?_ | refine grow_drew ?_)))⟩

end Go.Proofs.YtofjopdcbmaijaaGreat

namespace Go.Proofs.YtofjopdcbmaijaaGreat
open Go.RowKit
set_option maxRecDepth 20000

theorem alongI_gap (a b : Bx) : max (alongI a b 1) (alongI a b 2) = gapB a b := by
  unfold alongI gapB Bx.lo Bx.hi
  simp only [Int.reduceEq, if_false, if_true]
  omega

set_option maxHeartbeats 1000000 in
theorem refGap21_c (a b : Rc) (ha : Bd a.box) (hb : Bd b.box) (w : World) : Calls Tryz.prog 42 #[(.agg #[.int .i64 a.box.lx, .int .i64 a.box.ly, .int .i64 a.box.lz, .int .i64 a.box.hx, .int .i64 a.box.hy, .int .i64 a.box.hz, .int .i64 a.bar]), (.agg #[.int .i64 b.box.lx, .int .i64 b.box.ly, .int .i64 b.box.lz, .int .i64 b.box.hx, .int .i64 b.box.hy, .int .i64 b.box.hz, .int .i64 b.bar])] w (Ret w (.int .i64 (gapB a.box b.box))) := by
  have HE := Lib.hid (alongI_gap a.box b.box)
  go_enter Tryz.func42, Tryz.ntmps42
  go_wp2
  refine wp_region_grows (by kernel_rfl) (by kernel_rfl) ?_
  repeat (go_big_quiet_step ((go_at_call 86; refine Calls.quiet_ext (refAlong_c a.box b.box _ ?_ ha hb _); omega)))
  refine wpQuiet_nil ?_; rintro _ ⟨xq, rfl⟩
  go_wp2
  go_ret
  rw [HE.out]
  exact Ret.of (by (repeat (first | exact grow_refl _ | refine grow_ext _ ?_ | refine grow_alloc _ ?_ | refine grow_drew ?_)))

set_option maxRecDepth 100000 in
set_option maxHeartbeats 4000000 in
theorem refClear21_c (R : List Rc) (L : List Ct) (v : Value) (hRL : R.map Rc.box = L.map Ct.box) (hn : 2 ≤ R.length) (hlen : R.length ≤ 12000) (hbd : ∀ c ∈ R, Bd c.box) (w : World) (hv : Rcs w v R) :
    Calls Tryz.prog 13 #[v] w (Ret w (.int .i64 (clearI L))) := by
  obtain ⟨a, cap, rfl, h2, h3, h4⟩ := hv.shape
  have H4 := Lib.hid h4
  have hll : R.length = L.length := by have := congrArg List.length hRL; simpa using this
  have hbox : ∀ i (h : i < R.length), (L.getD i noCt).box = R[i].box := fun i h => by
    have h1 : (R.map Rc.box)[i]? = (L.map Ct.box)[i]? := by rw [hRL]
    rw [List.getElem?_map, List.getElem?_map, List.getElem?_eq_getElem h, List.getElem?_eq_getElem (by omega)] at h1
    rw [getD_lt (by omega)]
    simpa using h1.symm
  have HG := Lib.hid (show ∀ i k (hi : i < R.length) (hk : k < R.length) w, Calls Tryz.prog 42 #[(.agg #[.int .i64 R[i].box.lx, .int .i64 R[i].box.ly, .int .i64 R[i].box.lz, .int .i64 R[i].box.hx, .int .i64 R[i].box.hy, .int .i64 R[i].box.hz, .int .i64 R[i].bar]), (.agg #[.int .i64 R[k].box.lx, .int .i64 R[k].box.ly, .int .i64 R[k].box.lz, .int .i64 R[k].box.hx, .int .i64 R[k].box.hy, .int .i64 R[k].box.hz, .int .i64 R[k].bar])] w (Ret w (.int .i64 (gapK L i k))) from fun i k hi hk w => by
    have := refGap21_c R[i] R[k] (hbd _ (List.getElem_mem hi)) (hbd _ (List.getElem_mem hk)) w
    rw [show gapK L i k = gapB R[i].box R[k].box by unfold gapK; rw [hbox i hi, hbox k hk]]
    exact this)
  have HCI := Lib.hid (show clearI L = clrTo L R.length (gapK L 0 1) by rw [hll]; rfl)
  clear hv h4 hbd hRL hbox hll
  obtain ⟨b0, off, rfl, hct⟩ := H4.out 0 (by omega)
  obtain ⟨b0', off', e', hct1⟩ := H4.out 1 (by omega)
  cases e'
  obtain ⟨p0, p1, p2, p3, p4, p5, p6⟩ := hct
  obtain ⟨q0, q1, q2, q3, q4, q5, q6⟩ := hct1
  have HG0 := Lib.hid (fun w => HG.out 0 1 (by omega) (by omega) w)
  generalize R[0] = c0 at *
  generalize R[1] = c1 at *
  have l0 : (0 : Int) < (R.length : Int) := by omega
  have l1 : (1 : Int) < (R.length : Int) := by omega
  obtain ⟨G0, hG0⟩ : ∃ G, gapK L 0 1 = G := ⟨_, rfl⟩
  rw [hG0] at HG0 HCI
  clear hG0
  simp only [Nat.zero_mul, Nat.one_mul, Nat.add_zero] at p0 p1 p2 p3 p4 p5 p6 q0 q1 q2 q3 q4 q5 q6
  go_enter Tryz.func13, Tryz.ntmps13
  go_wp2_with fail
  refine wp_region_grows (by kernel_rfl) (by kernel_rfl) ?_
  repeat (go_big_quiet_step ((go_at_call 42; exact Calls.quiet_ext (HG0.out _))))
  refine wpQuiet_nil ?_; rintro _ ⟨xq, rfl⟩
  clear p0 p1 p2 p3 p4 p5 p6 q0 q1 q2 q3 q4 q5 q6
  go_wp2_with fail
  go_loopw [3, 4] (fun b i wr => ∃ n : Nat, n ≤ R.length ∧ i = .int .i64 n ∧ b = .int .i64 (clrTo L n G0) ∧ ∃ z, wr = ext w z) (fun _ i _ => R.length - (intOf i).toNat)
  case atStart => exact ⟨0, by omega, rfl, rfl, ext_of (by (repeat (first | exact grow_refl _ | refine grow_ext _ ?_ | refine grow_alloc _ ?_ | refine grow_drew ?_)))⟩
  case round =>
    obtain ⟨n, hn, rfl, rfl, z, rfl⟩ := hrel
    by_cases hlt : n < R.length
    · have i1 : (0 : Int) ≤ (n : Int) := by omega
      have i2 : (n : Int) < (R.length : Int) := by omega
      have HCS := Lib.hid (clrTo_succ L n G0)
      obtain ⟨B, hB⟩ : ∃ B, clrTo L n G0 = B := ⟨_, rfl⟩
      rw [hB] at HCS ⊢
      clear hB
      go_wp2_with fail
      go_loopw [3, 5] (fun b i wr => ∃ k : Nat, k ≤ n ∧ i = .int .i64 k ∧ b = .int .i64 (clrIn L n k B) ∧ ∃ z, wr = ext w z) (fun _ i _ => n - (intOf i).toNat)
      case atStart => exact ⟨0, by omega, rfl, rfl, ext_of (by (repeat (first | exact grow_refl _ | refine grow_ext _ ?_ | refine grow_alloc _ ?_ | refine grow_drew ?_)))⟩
      case round =>
        obtain ⟨k, hk, rfl, rfl, z, rfl⟩ := hrel
        by_cases hlt2 : k < n
        · have i3 : (0 : Int) ≤ (k : Int) := by omega
          have i4 : (k : Int) < (n : Int) := by omega
          have i5 : (k : Int) < (R.length : Int) := by omega
          have hkL : k < R.length := by omega
          have HIS := Lib.hid (clrIn_succ L n k B)
          rw [gapK_comm] at HIS
          obtain ⟨b1, o1, e1, hp⟩ := H4.out n hlt
          cases e1
          obtain ⟨b2, o2, e2, hq⟩ := H4.out k hkL
          cases e2
          obtain ⟨p0, p1, p2, p3, p4, p5, p6⟩ := hp.ext z
          obtain ⟨q0, q1, q2, q3, q4, q5, q6⟩ := hq.ext z
          have HGN := Lib.hid (fun w => HG.out k n hkL hlt w)
          generalize R[n] = cn at *
          generalize R[k] = ck at *
          generalize gapK L k n = G at *
          generalize clrIn L n k B = C at *
          clear hp hq hkL
          go_wp2_with fail
          refine wp_region_grows (by kernel_rfl) (by kernel_rfl) ?_
          repeat (go_big_quiet_step ((go_at_call 42; exact Calls.quiet_ext (HGN.out _))))
          refine wpQuiet_nil ?_; rintro _ ⟨xq, rfl⟩
          clear p0 p1 p2 p3 p4 p5 p6 q0 q1 q2 q3 q4 q5 q6
          go_wp2
          go_roundw
          case rel => exact ⟨k + 1, by omega, by go_num, by rw [HIS.out], ext_of (by (repeat (first | exact grow_refl _ | refine grow_ext _ ?_ | refine grow_alloc _ ?_ | refine grow_drew ?_)))⟩
          case measure => simp [intOf]; omega
        · obtain rfl : k = n := by omega
          go_wp2
          go_roundw
          case rel => exact ⟨k + 1, by omega, by go_num, by rw [HCS.out], ext_of (by (repeat (first | exact grow_refl _ | refine grow_ext _ ?_ | refine grow_alloc _ ?_ | refine grow_drew ?_)))⟩
          case measure => simp [intOf]; omega
    · obtain rfl : n = R.length := by omega
      go_wp2
      go_ret
      rw [HCI.out]
      exact Ret.of (by (repeat (first | exact grow_refl _ | refine grow_ext _ ?_ | refine grow_alloc _ ?_ | refine grow_drew ?_)))

end Go.Proofs.YtofjopdcbmaijaaGreat


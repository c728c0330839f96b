/- The reference's bar of a number, and its points: stirrupref16.Place, Bar, Points. -/
import Derived.Test.YtofjopdcbmaijaaGreatRefLK3
import Derived.Test.YtofjopdcbmaijaaGreatGapK1
namespace Go.Proofs.YtofjopdcbmaijaaGreat
open Go.RowKit
set_option maxRecDepth 20000

/-- Some run that holds the number, and the number in it. -/
def RetPlace (w : World) (rs : List Rn) (i : Int) (e : Ending) (W : World) : Prop :=
  ∃ (k : Nat) (hk : k < rs.length) (j : Int), e = .returned (.tuple #[.int .i64 k, .int .i64 j]) ∧ placeR rs i = some (rs[k], j) ∧ (0 ≤ j ∧ j < rs[k].count) ∧ ∃ x, W = ext w x

set_option maxRecDepth 100000 in
set_option maxHeartbeats 2000000 in
theorem refPlace_c (rs : List Rn) (u : Value) (i : Int) (hc : ∀ r ∈ rs, 1 ≤ r.count ∧ r.count ≤ 1000) (h0 : 0 ≤ i) (hi : i < countS rs) (hm : countS rs ≤ 2000) (w : World) (hr : Runs w u rs) :
    Calls Tryz.prog 85 #[u, .int .i64 i] w (RetPlace w rs i) := by
  obtain ⟨a, cap, rfl, h2, h3, h4⟩ := hr.shape
  have H4 := Lib.hid h4
  have HC := Lib.hid hc
  have hne : 0 < rs.length := by
    cases rs with
    | nil => simp only [countS] at hi; omega
    | cons r rs => simp
  have HI := Lib.hid hi
  clear hr h4 hc hi
  go_enter Tryz.func85, Tryz.ntmps85
  go_wp2_with fail
  go_loopw [1, 6] (fun iv kv wr => ∃ (k : Nat) (I : Int), k < rs.length ∧ kv = .int .i64 k ∧ iv = .int .i64 I ∧ (0 ≤ I ∧ I ≤ 2000) ∧ I < countS (rs.drop k) ∧ placeR (rs.drop k) I = placeR rs i ∧ ∃ x, wr = ext w x) (fun _ kv _ => rs.length - (intOf kv).toNat)
  case atStart => exact ⟨0, i, hne, rfl, rfl, by have := HI.out; omega, HI.out, rfl, ext_of (by (repeat (first | exact grow_refl _ | refine grow_ext _ ?_ | refine grow_alloc _ ?_ | refine grow_drew ?_)))⟩
  case round =>
    obtain ⟨k, I, hk, rfl, rfl, ⟨hI0, hI1⟩, hI2, hpl, x, rfl⟩ := hrel
    obtain ⟨_, b0, off, rfl, hbr⟩ := H4.out k hk
    have i1 : (0 : Int) ≤ (k : Int) := by omega
    have i2 : (k : Int) < (rs.length : Int) := by omega
    have hcr := HC.out _ (List.getElem_mem hk)
    have hd := List.drop_eq_getElem_cons hk
    rw [hd, placeR] at hpl
    rw [hd, countS] at hI2
    have hnext : rs[k].count ≤ I → k + 1 < rs.length := fun h => by
      rcases Nat.lt_or_ge (k + 1) rs.length with h1 | h1
      · exact h1
      · rw [List.drop_of_length_le h1, countS] at hI2; omega
    have HN := Lib.hid hnext
    have HP := Lib.hid hpl
    have HI2 := Lib.hid hI2
    clear hd hpl hnext hI2
    obtain ⟨r, hr⟩ : ∃ r, rs[k] = r := ⟨_, rfl⟩
    rw [hr] at hbr hcr HN HP HI2
    have HR := Lib.hid hr
    obtain ⟨c0, c1, c2, c3, c4, c5, c6, c7, c8, c9⟩ := hbr.ext x
    obtain ⟨hc1, hc2⟩ := hcr
    clear hr hbr
    by_cases hlt : I < r.count
    · have d1 : decide (r.count ≤ I) = false := by simp; omega
      go_wp2
      go_ret2
      exact ⟨k, hk, I, rfl, by rw [HR.out, ← HP.out, if_pos hlt], by rw [HR.out]; omega, ext_of (by (repeat (first | exact grow_refl _ | refine grow_ext _ ?_ | refine grow_alloc _ ?_ | refine grow_drew ?_)))⟩
    · have d1 : decide (r.count ≤ I) = true := by simp; omega
      go_wp2
      go_roundw
      case rel => exact ⟨k + 1, I - r.count, HN.out (by omega), by go_num, rfl, by omega, by have := HI2.out; omega, by rw [← HP.out, if_neg hlt], ext_of (by (repeat (first | exact grow_refl _ | refine grow_ext _ ?_ | refine grow_alloc _ ?_ | refine grow_drew ?_)))⟩
      case measure => simp [intOf]; omega

theorem laid_counts {l : List Br} {rs : List Rn} (h : laidB l rs = true) : ∀ r ∈ rs, 1 ≤ r.count ∧ r.count ≤ 1000 := fun r hr => runB_count ((laidB_iff.1 h).2.2.1 r hr)
theorem laid_most {l : List Br} {rs : List Rn} (h : laidB l rs = true) : countS rs ≤ 2000 := (laidB_iff.1 h).2.2.2

set_option maxRecDepth 100000 in
set_option maxHeartbeats 2000000 in
theorem refBar_c (l : List Br) (rs : List Rn) (v u : Value) (i : Int) (hv : laidB l rs = true) (h0 : 0 ≤ i) (hi : i < countS rs) (w : World) (hl : Bars w v l) (hr : Runs w u rs) :
    Calls Tryz.prog 40 #[v, u, .int .i64 i] w (Ret w (.agg #[.string (barOf l (markI rs i)).mark, .int .i64 (barOf l (markI rs i)).size, .int .i64 (barOf l (markI rs i)).count, .int .i64 (barOf l (markI rs i)).code, (barOf l (markI rs i)).dv])) := by
  have HPL := Lib.hid (fun w hr => refPlace_c rs u i (laid_counts hv) h0 hi (laid_most hv) w hr)
  have HL := Lib.hid hl
  have HR := Lib.hid hr
  have HF := Lib.hid (fun w m hl => refFind_c l v m w hl)
  have hmk := (mark_of hv h0 hi).2.1
  obtain ⟨a, cap, rfl, g2, g3, g4⟩ := hl.shape
  obtain ⟨a', cap', rfl, h2, h3, h4⟩ := hr.shape
  have G4 := Lib.hid g4
  have H4 := Lib.hid h4
  have HMK := Lib.hid hmk
  clear hl hr g4 h4 hmk
  go_enter Tryz.func40, Tryz.ntmps40
  go_wp2_with fail
  go_at_call 85; refine (HPL.out _ (HR.out.below (by (repeat (first | exact grow_refl _ | refine grow_ext _ ?_ | refine grow_alloc _ ?_ | refine grow_drew ?_))))).mono ?_; rintro e w' ⟨k, hk, j, rfl, hp, hj, x1, rfl⟩
  obtain ⟨_, b0, off, rfl, hbr⟩ := H4.out k hk
  have i1 : (0 : Int) ≤ (k : Int) := by omega
  have i2 : (k : Int) < (rs.length : Int) := by omega
  have hmr : markI rs i = rs[k].mark := by unfold markI; rw [hp]
  have HMR := Lib.hid hmr
  obtain ⟨r, hr⟩ : ∃ r, rs[k] = r := ⟨_, rfl⟩
  rw [hr] at hbr HMR
  have hk2 := HMK.out
  rw [HMR.out] at hk2
  rcases findI_cases l r.mark with ⟨e1, -⟩ | ⟨q, hq, e1, -, -⟩
  · omega
  have HBO := Lib.hid (show barOf l (markI rs i) = l[q] by
    rw [HMR.out]; unfold barOf; rw [e1]; simp [List.getD, hq])
  obtain ⟨hok, b1, off1, rfl, hbb⟩ := G4.out q hq
  have HFI := Lib.hid (fun w hl => HF.out w r.mark hl)
  rw [e1] at HFI
  have j1 : (0 : Int) ≤ (q : Int) := by omega
  have j2 : (q : Int) < (l.length : Int) := by omega
  obtain ⟨b, hb⟩ : ∃ b, l[q] = b := ⟨_, rfl⟩
  rw [hb] at hbb HBO hok
  have c0 := hbr.1
  obtain ⟨ad, cd, ev, -, -, -⟩ := hok.dims
  obtain ⟨mark, size, count, code, dims, dv⟩ := b
  simp only at ev
  subst ev
  obtain ⟨d0, d1, d2, d3, d4⟩ := hbb
  simp only at d0 d1 d2 d3 d4
  clear hr hbr hk2 e1 hb hmr hp hj HMK HF hok
  go_wp2_with fail
  go_at_call 77; refine (HFI.out _ (HL.out.below (by (repeat (first | exact grow_refl _ | refine grow_ext _ ?_ | refine grow_alloc _ ?_ | refine grow_drew ?_))))).mono ?_; rintro e w' ⟨rfl, x2, rfl⟩
  go_wp2
  rw [HBO.out]
  refine bodyPost_ret (v := .agg #[.string mark, .int .i64 size, .int .i64 count, .int .i64 code, .slice ad dims.length cd]) (by simp [results, Tryz.results40, go_sem]) rfl ?_
  exact Ret.of (by (repeat (first | exact grow_refl _ | refine grow_ext _ ?_ | refine grow_alloc _ ?_ | refine grow_drew ?_)))

def RetPtsO (w : World) (l : List Pt) (e : Ending) (W : World) : Prop := ∃ v, e = .returned v ∧ W.ownsRow w.heap.size 36 3 v l.length (ptCells l) ∧ ∃ x, W = ext w x

set_option maxRecDepth 100000 in
set_option maxHeartbeats 4000000 in
theorem refPts_c (l : List Br) (rs : List Rn) (v u : Value) (i : Int) (hv : laidB l rs = true) (h0 : 0 ≤ i) (hi : i < countS rs) (w : World) (hl : Bars w v l) (hr : Runs w u rs) :
    Calls Tryz.prog 83 #[v, u, .int .i64 i] w (RetPtsO w (pathI l rs i)) := by
  have HPL := Lib.hid (fun w hr => refPlace_c rs u i (laid_counts hv) h0 hi (laid_most hv) w hr)
  have HBA := Lib.hid (fun w hl hr => refBar_c l rs v u i hv h0 hi w hl hr)
  have HL := Lib.hid hl
  have HR := Lib.hid hr
  have HV := Lib.hid hv
  have hmk := mark_of hv h0 hi
  obtain ⟨q, hq, eb⟩ := List.getElem_of_mem (bar_mem hmk.2.1)
  obtain ⟨ba, bcap, rfl, g2, g3, g4⟩ := hl.shape
  have HBO := Lib.hid (show BrOk w (barOf l (markI rs i)) by rw [← eb]; exact (g4 q hq).1)
  have HSH := Lib.hid (schedB_shape (laidB_iff.1 hv).1 _ (bar_mem hmk.2.1))
  obtain ⟨a', cap', rfl, h2, h3, h4⟩ := hr.shape
  have H4 := Lib.hid h4
  clear hl hr h4 g4 eb hmk hv
  go_enter Tryz.func83, Tryz.ntmps83
  go_wp2_with fail
  go_at_call 85; refine (HPL.out _ (HR.out.below (by (repeat (first | exact grow_refl _ | refine grow_ext _ ?_ | refine grow_alloc _ ?_ | refine grow_drew ?_))))).mono ?_; rintro e w' ⟨k, hk, j, rfl, hp, ⟨hj0, hj1⟩, x1, rfl⟩
  obtain ⟨_, b0, off, rfl, hbr⟩ := H4.out k hk
  have i1 : (0 : Int) ≤ (k : Int) := by omega
  have i2 : (k : Int) < (rs.length : Int) := by omega
  have hmr : markI rs i = rs[k].mark := by unfold markI; rw [hp]
  have hpi : pathI l rs i = laidL (barOf l (markI rs i)) rs[k] j := by unfold pathI; rw [hp, hmr]
  have HPI := Lib.hid hpi
  have hrb := (laidB_iff.1 HV.out).2.2.1 _ (List.getElem_mem hk)
  obtain ⟨r, hr⟩ : ∃ r, rs[k] = r := ⟨_, rfl⟩
  rw [hr] at hbr HPI hrb hj1
  have hct := runB_count hrb
  rw [runB_eq] at hrb
  simp only [right1, right2, Bool.and_eq_true, Bool.or_eq_true, decide_eq_true_iff] at hrb
  obtain ⟨⟨_, ht, _, _, ha⟩, hs2, _⟩ := hrb
  have HPT := Lib.hid (fun w hb => refPoints_c (barOf l (markI rs i)) r j HSH.out ht (near_iff.1 ha) (by omega) (fun h => by
    rcases hs2 with h' | h'
    · omega
    · exact near_iff.1 h'.2) w hb)
  obtain ⟨b, hb⟩ : ∃ b, barOf l (markI rs i) = b := ⟨_, rfl⟩
  rw [hb] at HBA HBO HPT HPI
  obtain ⟨c0, c1, c2, c3, c4, c5, c6, c7, c8, c9⟩ := hbr.ext x1
  clear hr hbr hp hmr hpi ht ha hs2 hb HSH hct
  go_wp2_with fail
  refine wp_region_tail 9 (by kernel_rfl) (by kernel_rfl) ?_; simp only [List.take_succ_cons, List.take_zero, List.drop_succ_cons, List.drop_zero]
  repeat (go_big_quiet_step ((go_at_call 40; exact Calls.quiet_ext (HBA.out _ (HL.out.below (by (repeat (first | exact grow_refl _ | refine grow_ext _ ?_ | refine grow_alloc _ ?_ | refine grow_drew ?_)))) (HR.out.below (by (repeat (first | exact grow_refl _ | refine grow_ext _ ?_ | refine grow_alloc _ ?_ | refine grow_drew ?_))))))))
  refine wpQuiet_nil ?_; rintro _ ⟨xq, rfl⟩
  go_wp2_with fail
  go_at_call 82; refine (HPT.out _ (HBO.out.below (by (repeat (first | exact grow_refl _ | refine grow_ext _ ?_ | refine grow_alloc _ ?_ | refine grow_drew ?_))))).mono ?_; rintro e w' ⟨v9, rfl, hown, x9, rfl⟩
  go_wp2
  go_ret
  exact ⟨v9, rfl, by rw [HPI.out]; exact own_mono hown (by simp only [size_ext]; omega), ext_of (by (repeat (first | exact grow_refl _ | refine grow_ext _ ?_ | refine grow_alloc _ ?_ | refine grow_drew ?_)))⟩

end Go.Proofs.YtofjopdcbmaijaaGreat

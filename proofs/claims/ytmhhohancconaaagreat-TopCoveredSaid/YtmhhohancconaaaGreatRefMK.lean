/- RefM1, RefM2, RefM3, RefM4 in one text. -/
import Derived.Test.YtmhhohancconaaaGreatRefLK3
import Derived.Test.YtmhhohancconaaaGreatGapK1
import Derived.Test.YtmhhohancconaaaGreatGapC
import Derived.Test.YtmhhohancconaaaGreatBaseK
import Derived.Test.YtmhhohancconaaaGreatGapK3
namespace Go.Proofs.YtmhhohancconaaaGreat
open Go.RowKit
set_option maxRecDepth 20000

/-- Some run that holds the number, and the number in it. -/
def RetPlace (w : World) (rs : List Rn) (i : Int) (e : Ending) (W : World) : Prop :=
  ∃ (k : Nat) (hk : k < rs.length) (j : Int), e = .returned (.tuple #[.int .i64 k, .int .i64 j]) ∧ placeR rs i = some (rs[k], j) ∧ (0 ≤ j ∧ j < rs[k].count) ∧ ∃ x, W = ext w x

set_option maxRecDepth 100000 in
set_option maxHeartbeats 2000000 in
theorem refPlace_c (rs : List Rn) (u : Value) (i : Int) (hc : ∀ r ∈ rs, 1 ≤ r.count ∧ r.count ≤ 1000) (h0 : 0 ≤ i) (hi : i < countS rs) (hm : countS rs ≤ 2000) (w : World) (hr : Runs w u rs) :
    Calls Tryz.prog 31 #[u, .int .i64 i] w (RetPlace w rs i) := by
  obtain ⟨a, cap, rfl, h2, h3, h4⟩ := hr.shape
  have H4 := Lib.hid h4
  have HC := Lib.hid hc
  have hne : 0 < rs.length := by
    cases rs with
    | nil => simp only [countS] at hi; omega
    | cons r rs => simp
  have HI := Lib.hid hi
  clear hr h4 hc hi
  go_enter Tryz.func31, Tryz.ntmps31
  go_wp2_with fail
  go_loopw [1, 6] (fun iv kv wr => ∃ (k : Nat) (I : Int), k < rs.length ∧ kv = .int .i64 k ∧ iv = .int .i64 I ∧ (0 ≤ I ∧ I ≤ 2000) ∧ I < countS (rs.drop k) ∧ placeR (rs.drop k) I = placeR rs i ∧ ∃ x, wr = ext w x) (fun _ kv _ => rs.length - (intOf kv).toNat)
  case atStart => exact ⟨0, i, hne, rfl, rfl, by have := HI.out; omega, HI.out, rfl, ext_of (by (repeat (first | exact grow_refl _ | refine grow_ext _ ?_ | refine grow_alloc _ ?_ | refine grow_drew ?_)))⟩
  case round =>
    obtain ⟨k, I, hk, rfl, rfl, ⟨hI0, hI1⟩, hI2, hpl, x, rfl⟩ := hrel
    obtain ⟨_, b0, off, rfl, hbr⟩ := H4.out k hk
    have i1 : (0 : Int) ≤ (k : Int) := by omega
    have i2 : (k : Int) < (rs.length : Int) := by omega
    have hcr := HC.out _ (List.getElem_mem hk)
    have hd := List.drop_eq_getElem_cons hk
    rw [hd, placeR] at hpl
    rw [hd, countS] at hI2
    have hnext : rs[k].count ≤ I → k + 1 < rs.length := fun h => by
      rcases Nat.lt_or_ge (k + 1) rs.length with h1 | h1
      · exact h1
      · rw [List.drop_of_length_le h1, countS] at hI2; omega
    have HN := Lib.hid hnext
    have HP := Lib.hid hpl
    have HI2 := Lib.hid hI2
    clear hd hpl hnext hI2
    obtain ⟨r, hr⟩ : ∃ r, rs[k] = r := ⟨_, rfl⟩
    rw [hr] at hbr hcr HN HP HI2
    have HR := Lib.hid hr
    obtain ⟨c0, c1, c2, c3, c4, c5, c6, c7, c8, c9⟩ := hbr.ext x
    obtain ⟨hc1, hc2⟩ := hcr
    clear hr hbr
    by_cases hlt : I < r.count
    · have d1 : decide (r.count ≤ I) = false := by simp; omega
      go_wp2
      go_ret2
      exact ⟨k, hk, I, rfl, by rw [HR.out, ← HP.out, if_pos hlt], by rw [HR.out]; omega, ext_of (by (repeat (first | exact grow_refl _ | refine grow_ext _ ?_ | refine grow_alloc _ ?_ | refine grow_drew ?_)))⟩
    · have d1 : decide (r.count ≤ I) = true := by simp; omega
      go_wp2
      go_roundw
      case rel => exact ⟨k + 1, I - r.count, HN.out (by omega), by go_num, rfl, by omega, by have := HI2.out; omega, by rw [← HP.out, if_neg hlt], ext_of (by (repeat (first | exact grow_refl _ | refine grow_ext _ ?_ | refine grow_alloc _ ?_ | refine grow_drew ?_)))⟩
      case measure => simp [intOf]; omega

theorem laid_counts {l : List Br} {rs : List Rn} (h : laidB l rs = true) : ∀ r ∈ rs, 1 ≤ r.count ∧ r.count ≤ 1000 := fun r hr => runB_count ((laidB_iff.1 h).2.2.1 r hr)
theorem laid_most {l : List Br} {rs : List Rn} (h : laidB l rs = true) : countS rs ≤ 2000 := (laidB_iff.1 h).2.2.2

set_option maxRecDepth 100000 in
set_option maxHeartbeats 2000000 in
theorem refBar_c (l : List Br) (rs : List Rn) (v u : Value) (i : Int) (hv : laidB l rs = true) (h0 : 0 ≤ i) (hi : i < countS rs) (w : World) (hl : Bars w v l) (hr : Runs w u rs) :
    Calls Tryz.prog 14 #[v, u, .int .i64 i] w (Ret w (.agg #[.string (barOf l (markI rs i)).mark, .int .i64 (barOf l (markI rs i)).size, .int .i64 (barOf l (markI rs i)).count, .int .i64 (barOf l (markI rs i)).code, (barOf l (markI rs i)).dv])) := by
  have HPL := Lib.hid (fun w hr => refPlace_c rs u i (laid_counts hv) h0 hi (laid_most hv) w hr)
  have HL := Lib.hid hl
  have HR := Lib.hid hr
  have HF := Lib.hid (fun w m hl => refFind_c l v m w hl)
  have hmk := (mark_of hv h0 hi).2.1
  obtain ⟨a, cap, rfl, g2, g3, g4⟩ := hl.shape
  obtain ⟨a', cap', rfl, h2, h3, h4⟩ := hr.shape
  have G4 := Lib.hid g4
  have H4 := Lib.hid h4
  have HMK := Lib.hid hmk
  clear hl hr g4 h4 hmk
  go_enter Tryz.func14, Tryz.ntmps14
  go_wp2_with fail
  go_at_call 31; refine (HPL.out _ (HR.out.below (by (repeat (first | exact grow_refl _ | refine grow_ext _ ?_ | refine grow_alloc _ ?_ | refine grow_drew ?_))))).mono ?_; rintro e w' ⟨k, hk, j, rfl, hp, hj, x1, rfl⟩
  obtain ⟨_, b0, off, rfl, hbr⟩ := H4.out k hk
  have i1 : (0 : Int) ≤ (k : Int) := by omega
  have i2 : (k : Int) < (rs.length : Int) := by omega
  have hmr : markI rs i = rs[k].mark := by unfold markI; rw [hp]
  have HMR := Lib.hid hmr
  obtain ⟨r, hr⟩ : ∃ r, rs[k] = r := ⟨_, rfl⟩
  rw [hr] at hbr HMR
  have hk2 := HMK.out
  rw [HMR.out] at hk2
  rcases findI_cases l r.mark with ⟨e1, -⟩ | ⟨q, hq, e1, -, -⟩
  · omega
  have HBO := Lib.hid (show barOf l (markI rs i) = l[q] by
    rw [HMR.out]; unfold barOf; rw [e1]; simp [List.getD, hq])
  obtain ⟨hok, b1, off1, rfl, hbb⟩ := G4.out q hq
  have HFI := Lib.hid (fun w hl => HF.out w r.mark hl)
  rw [e1] at HFI
  have j1 : (0 : Int) ≤ (q : Int) := by omega
  have j2 : (q : Int) < (l.length : Int) := by omega
  obtain ⟨b, hb⟩ : ∃ b, l[q] = b := ⟨_, rfl⟩
  rw [hb] at hbb HBO hok
  have c0 := hbr.1
  obtain ⟨ad, cd, ev, -, -, -⟩ := hok.dims
  obtain ⟨mark, size, count, code, dims, dv⟩ := b
  simp only at ev
  subst ev
  obtain ⟨d0, d1, d2, d3, d4⟩ := hbb
  simp only at d0 d1 d2 d3 d4
  clear hr hbr hk2 e1 hb hmr hp hj HMK HF hok
  go_wp2_with fail
  go_at_call 32; refine (HFI.out _ (HL.out.below (by (repeat (first | exact grow_refl _ | refine grow_ext _ ?_ | refine grow_alloc _ ?_ | refine grow_drew ?_))))).mono ?_; rintro e w' ⟨rfl, x2, rfl⟩
  go_wp2
  rw [HBO.out]
  refine bodyPost_ret (v := .agg #[.string mark, .int .i64 size, .int .i64 count, .int .i64 code, .slice ad dims.length cd]) (by simp [results, Tryz.results14, go_sem]) rfl ?_
  exact Ret.of (by (repeat (first | exact grow_refl _ | refine grow_ext _ ?_ | refine grow_alloc _ ?_ | refine grow_drew ?_)))

def RetPtsO (w : World) (l : List Pt) (e : Ending) (W : World) : Prop := ∃ v, e = .returned v ∧ W.ownsRow w.heap.size 54 3 v l.length (ptCells l) ∧ ∃ x, W = ext w x

end Go.Proofs.YtmhhohancconaaaGreat

namespace Go.Proofs.YtmhhohancconaaaGreat
open Go.RowKit
set_option maxRecDepth 20000

def RetBxsO (w : World) (l : List Bx) (e : Ending) (W : World) : Prop := ∃ v, e = .returned v ∧ W.ownsRow w.heap.size 56 6 v l.length (boxCells l) ∧ ∃ x, W = ext w x

end Go.Proofs.YtmhhohancconaaaGreat

namespace Go.Proofs.YtmhhohancconaaaGreat
open Go.RowKit
set_option maxRecDepth 20000

def rcOf (d x i : Int) (b : Bx) : Option Rc := if alongB x b = true then some ⟨cutBox d x b, i⟩ else none
def rcAt (l : List Br) (rs : List Rn) (x : Int) (i : Nat) : List Rc := (legsI l rs i).filterMap (rcOf (sizeI l rs i) x i)
def rcTo (l : List Br) (rs : List Rn) (x : Int) (n : Nat) : List Rc := (List.range n).flatMap (rcAt l rs x)
def rcI (l : List Br) (rs : List Rn) (x : Int) : List Rc := rcTo l rs x (countS rs).toNat
theorem rcTo_succ (l : List Br) (rs : List Rn) (x : Int) (n : Nat) : rcTo l rs x (n + 1) = rcTo l rs x n ++ rcAt l rs x n := by
  unfold rcTo
  rw [List.range_succ, List.flatMap_append]; simp
/-- The cut that the reference's cut stands for. -/
def ctOf (l : List Br) (rs : List Rn) (c : Rc) : Ct := ⟨c.box, sizeI l rs c.bar, markI rs c.bar⟩
theorem rcAt_ct (l : List Br) (rs : List Rn) (x : Int) (i : Nat) : (rcAt l rs x i).map (ctOf l rs) = cutsAt l rs x i := by
  unfold rcAt cutsAt
  rw [List.map_filterMap]
  congr 1
  funext b
  unfold rcOf cutOf
  split <;> rfl
theorem rcTo_ct (l : List Br) (rs : List Rn) (x : Int) (n : Nat) : (rcTo l rs x n).map (ctOf l rs) = cutsTo l rs x n := by
  induction n with
  | zero => rfl
  | succ n ih => rw [rcTo_succ, cutsTo_succ, List.map_append, ih, rcAt_ct]
theorem rcI_ct (l : List Br) (rs : List Rn) (x : Int) : (rcI l rs x).map (ctOf l rs) = cutsI l rs x := rcTo_ct l rs x _
theorem rcTo_len (l : List Br) (rs : List Rn) (x : Int) (n : Nat) : (rcTo l rs x n).length ≤ 6 * n := by
  have := cutsTo_len l rs x n
  rw [← rcTo_ct, List.length_map] at this
  exact this
theorem rcI_bar {l : List Br} {rs : List Rn} {x : Int} (h0 : 0 ≤ countS rs) : ∀ c ∈ rcI l rs x, 0 ≤ c.bar ∧ c.bar < countS rs := by
  intro c hc
  unfold rcI rcTo at hc
  obtain ⟨i, hi, hci⟩ := List.mem_flatMap.1 hc
  have hi := List.mem_range.1 hi
  unfold rcAt at hci
  obtain ⟨b, _, hcb⟩ := List.mem_filterMap.1 hci
  unfold rcOf at hcb
  split at hcb
  · cases hcb; simp only; omega
  · cases hcb
theorem filter_take_rc {f : Bx → Option Rc} {L : List Bx} {k : Nat} (h : k < L.length) : (L.take (k + 1)).filterMap f = (L.take k).filterMap f ++ (match f L[k] with | some c => [c] | none => []) := by
  rw [List.take_succ_eq_append_getElem h, List.filterMap_append]
  cases e : f L[k] <;> simp [e]

def along3 (b : Bx) : Bool := decide (b.lx < b.hx) && (decide (b.ly = b.hy) && decide (b.lz = b.hz))
theorem run_bar_size (mark : ByteArray) (size count code : Int) (ad : Option Addr) (n cd : Nat) (w : World) :
    (Instr.field 51 (.agg #[.string mark, .int .i64 size, .int .i64 count, .int .i64 code, .slice ad n cd]) 1).run Tryz.prog w = .ok (.int .i64 size) w := by kernel_rfl
theorem run_bar_mark (mark : ByteArray) (size count code : Int) (ad : Option Addr) (n cd : Nat) (w : World) :
    (Instr.field 51 (.agg #[.string mark, .int .i64 size, .int .i64 count, .int .i64 code, .slice ad n cd]) 0).run Tryz.prog w = .ok (.string mark) w := by kernel_rfl
attribute [local go_sem] run_bar_size

end Go.Proofs.YtmhhohancconaaaGreat

namespace Go.Proofs.YtmhhohancconaaaGreat
open Go.RowKit
set_option maxRecDepth 20000

theorem alongI_gap (a b : Bx) : max (alongI a b 1) (alongI a b 2) = gapB a b := by
  unfold alongI gapB Bx.lo Bx.hi
  simp only [Int.reduceEq, if_false, if_true]
  omega

end Go.Proofs.YtmhhohancconaaaGreat


/- The reference's cuts: stirrupref21.Along, Cuts. -/
import Derived.Test.YtofjopdcbmaijaaGreatRefM2
import Derived.Test.YtofjopdcbmaijaaGreatGapC
namespace Go.Proofs.YtofjopdcbmaijaaGreat
open Go.RowKit
set_option maxRecDepth 20000

structure Rc where
  box : Bx
  bar : Int
def RcAt (w : World) (b off : Nat) (c : Rc) : Prop :=
  w.cell? ⟨b, off, none⟩ = some (.int .i64 c.box.lx) ∧ w.cell? ⟨b, off + 1, none⟩ = some (.int .i64 c.box.ly) ∧ w.cell? ⟨b, off + 2, none⟩ = some (.int .i64 c.box.lz) ∧
  w.cell? ⟨b, off + 3, none⟩ = some (.int .i64 c.box.hx) ∧ w.cell? ⟨b, off + 4, none⟩ = some (.int .i64 c.box.hy) ∧ w.cell? ⟨b, off + 5, none⟩ = some (.int .i64 c.box.hz) ∧
  w.cell? ⟨b, off + 6, none⟩ = some (.int .i64 c.bar)
theorem RcAt.ext {w : World} {b off : Nat} {c : Rc} (h : RcAt w b off c) (y : World) : RcAt (ext w y) b off c := by
  obtain ⟨h0, h1, h2, h3, h4, h5, h6⟩ := h
  exact ⟨cell_ext_some h0 y, cell_ext_some h1 y, cell_ext_some h2 y, cell_ext_some h3 y, cell_ext_some h4 y, cell_ext_some h5 y, cell_ext_some h6 y⟩
/-- A slice value that reads as a list of the reference's cuts. -/
def Rcs (w : World) (v : Value) (l : List Rc) : Prop :=
  ∃ a cap, v = .slice a l.length cap ∧ l.length ≤ cap ∧ cap ≤ 9223372036854775807 ∧ ∀ i (h : i < l.length), ∃ b off, a = some ⟨b, off, none⟩ ∧ RcAt w b (off + i * 7) l[i]
theorem Rcs.ext {w : World} {v : Value} {l : List Rc} (h : Rcs w v l) (y : World) : Rcs (ext w y) v l := by
  obtain ⟨a, cap, h1, h2, h3, h4⟩ := h
  exact ⟨a, cap, h1, h2, h3, fun i hi => let ⟨b, off, e, hb⟩ := h4 i hi; ⟨b, off, e, hb.ext y⟩⟩
theorem Rcs.below {w w' : World} {v : Value} {l : List Rc} (h : Rcs w v l) (hb : Below w.heap.size w w') : Rcs w' v l := by
  obtain ⟨x, rfl⟩ := ext_of hb
  exact h.ext x
theorem Rcs.shape {w : World} {v : Value} {l : List Rc} (h : Rcs w v l) : ∃ a cap, v = .slice a l.length cap ∧ l.length ≤ cap ∧ cap ≤ 9223372036854775807 ∧ ∀ i (h : i < l.length), ∃ b off, a = some ⟨b, off, none⟩ ∧ RcAt w b (off + i * 7) l[i] := h
def rcCells (l : List Rc) : List Value := l.flatMap fun c => [.int .i64 c.box.lx, .int .i64 c.box.ly, .int .i64 c.box.lz, .int .i64 c.box.hx, .int .i64 c.box.hy, .int .i64 c.box.hz, .int .i64 c.bar]
theorem rcCells_append (a b : List Rc) : rcCells (a ++ b) = rcCells a ++ rcCells b := by unfold rcCells; rw [List.flatMap_append]
theorem rcCells_one (l : List Rc) : ∀ u ∈ rcCells l, u.oneCell' = true := by
  intro u hu
  unfold rcCells at hu
  obtain ⟨b, _, hb⟩ := List.mem_flatMap.1 hu
  simp only [List.mem_cons, List.not_mem_nil, or_false] at hb
  rcases hb with rfl | rfl | rfl | rfl | rfl | rfl | rfl <;> rfl
theorem rcCells_get (l : List Rc) (i : Nat) (h : i < l.length) : (rcCells l)[i * 7]? = some (.int .i64 l[i].box.lx) ∧ (rcCells l)[i * 7 + 1]? = some (.int .i64 l[i].box.ly) ∧ (rcCells l)[i * 7 + 2]? = some (.int .i64 l[i].box.lz) ∧
    (rcCells l)[i * 7 + 3]? = some (.int .i64 l[i].box.hx) ∧ (rcCells l)[i * 7 + 4]? = some (.int .i64 l[i].box.hy) ∧ (rcCells l)[i * 7 + 5]? = some (.int .i64 l[i].box.hz) ∧ (rcCells l)[i * 7 + 6]? = some (.int .i64 l[i].bar) := by
  induction l generalizing i with
  | nil => simp at h
  | cons a l ih =>
    cases i with
    | zero => simp [rcCells]
    | succ i =>
      have := ih i (by simpa using h)
      have hc : ∀ k, (rcCells (a :: l))[(i + 1) * 7 + k]? = (rcCells l)[i * 7 + k]? := fun k => by
        rw [show (i + 1) * 7 + k = (i * 7 + k) + 1 + 1 + 1 + 1 + 1 + 1 + 1 by omega]
        simp only [rcCells, List.flatMap_cons, List.cons_append, List.nil_append, List.getElem?_cons_succ]
      have h0 := hc 0
      rw [Nat.add_zero, Nat.add_zero] at h0
      rw [h0, hc, hc, hc, hc, hc, hc]
      exact this
theorem Rcs.of_own {w : World} {base : Nat} {e : TypeId} {v : Value} {l : List Rc} (h : w.ownsRow base e 7 v l.length (rcCells l)) : Rcs w v l := by
  obtain ⟨a, cap, rfl, h1, h2, h3⟩ := own_shape h
  unfold maxLen at h2
  refine ⟨a, cap, rfl, h1, by omega, fun i hi => ?_⟩
  obtain ⟨g, rfl, _, hc⟩ := h3 (by omega)
  obtain ⟨p0, p1, p2, p3, p4, p5, p6⟩ := rcCells_get l i hi
  refine ⟨g, 0, rfl, ?_⟩
  rw [Nat.zero_add]
  exact ⟨by rw [hc _ (by omega), p0], by rw [hc _ (by omega), p1], by rw [hc _ (by omega), p2], by rw [hc _ (by omega), p3], by rw [hc _ (by omega), p4], by rw [hc _ (by omega), p5], by rw [hc _ (by omega), p6]⟩
theorem info_rc : (Tryz.prog.info? 40).map (fun i => (i.zero, i.size, i.bytes)) = some (some (.agg #[.int .i64 0, .int .i64 0, .int .i64 0, .int .i64 0, .int .i64 0, .int .i64 0, .int .i64 0]), 7, 56) := by kernel_rfl
theorem own_rcs {W : World} {M : Nat} {e : TypeId} {v : Value} {n : Nat} {l : List Rc} {c : Rc} (h : W.ownsRow M e 7 v (n + 1) (rcCells l ++ rcCells [c])) (hn : n = l.length) : W.ownsRow M e 7 v (l ++ [c]).length (rcCells (l ++ [c])) := by
  subst hn
  rw [rcCells_append, List.length_append]; exact h

def rcOf (d x i : Int) (b : Bx) : Option Rc := if alongB x b = true then some ⟨cutBox d x b, i⟩ else none
def rcAt (l : List Br) (rs : List Rn) (x : Int) (i : Nat) : List Rc := (legsI l rs i).filterMap (rcOf (sizeI l rs i) x i)
def rcTo (l : List Br) (rs : List Rn) (x : Int) (n : Nat) : List Rc := (List.range n).flatMap (rcAt l rs x)
def rcI (l : List Br) (rs : List Rn) (x : Int) : List Rc := rcTo l rs x (countS rs).toNat
theorem rcTo_succ (l : List Br) (rs : List Rn) (x : Int) (n : Nat) : rcTo l rs x (n + 1) = rcTo l rs x n ++ rcAt l rs x n := by
  unfold rcTo
  rw [List.range_succ, List.flatMap_append]; simp
/-- The cut that the reference's cut stands for. -/
def ctOf (l : List Br) (rs : List Rn) (c : Rc) : Ct := ⟨c.box, sizeI l rs c.bar, markI rs c.bar⟩
theorem rcAt_ct (l : List Br) (rs : List Rn) (x : Int) (i : Nat) : (rcAt l rs x i).map (ctOf l rs) = cutsAt l rs x i := by
  unfold rcAt cutsAt
  rw [List.map_filterMap]
  congr 1
  funext b
  unfold rcOf cutOf
  split <;> rfl
theorem rcTo_ct (l : List Br) (rs : List Rn) (x : Int) (n : Nat) : (rcTo l rs x n).map (ctOf l rs) = cutsTo l rs x n := by
  induction n with
  | zero => rfl
  | succ n ih => rw [rcTo_succ, cutsTo_succ, List.map_append, ih, rcAt_ct]
theorem rcI_ct (l : List Br) (rs : List Rn) (x : Int) : (rcI l rs x).map (ctOf l rs) = cutsI l rs x := rcTo_ct l rs x _
theorem rcTo_len (l : List Br) (rs : List Rn) (x : Int) (n : Nat) : (rcTo l rs x n).length ≤ 6 * n := by
  have := cutsTo_len l rs x n
  rw [← rcTo_ct, List.length_map] at this
  exact this
theorem rcI_bar {l : List Br} {rs : List Rn} {x : Int} (h0 : 0 ≤ countS rs) : ∀ c ∈ rcI l rs x, 0 ≤ c.bar ∧ c.bar < countS rs := by
  intro c hc
  unfold rcI rcTo at hc
  obtain ⟨i, hi, hci⟩ := List.mem_flatMap.1 hc
  have hi := List.mem_range.1 hi
  unfold rcAt at hci
  obtain ⟨b, _, hcb⟩ := List.mem_filterMap.1 hci
  unfold rcOf at hcb
  split at hcb
  · cases hcb; simp only; omega
  · cases hcb
theorem filter_take_rc {f : Bx → Option Rc} {L : List Bx} {k : Nat} (h : k < L.length) : (L.take (k + 1)).filterMap f = (L.take k).filterMap f ++ (match f L[k] with | some c => [c] | none => []) := by
  rw [List.take_succ_eq_append_getElem h, List.filterMap_append]
  cases e : f L[k] <;> simp [e]

def along3 (b : Bx) : Bool := decide (b.lx < b.hx) && (decide (b.ly = b.hy) && decide (b.lz = b.hz))
set_option maxHeartbeats 1000000 in
theorem refAlong21_v (b : Bx) (r : Bool) (h : along3 b = r) (w : World) : Calls Tryz.prog 41 #[(.agg #[.int .i64 b.lx, .int .i64 b.ly, .int .i64 b.lz, .int .i64 b.hx, .int .i64 b.hy, .int .i64 b.hz])] w (Ret w (.bool r)) := by
  unfold along3 at h
  cases h1 : decide (b.lx < b.hx)
  · rw [h1, Bool.false_and] at h
    subst h
    go_enter Tryz.func41, Tryz.ntmps41
    go_wp2
    go_ret
    exact Ret.of (by (repeat (first | exact grow_refl _ | refine grow_ext _ ?_ | refine grow_alloc _ ?_ | refine grow_drew ?_)))
  · rw [h1, Bool.true_and] at h
    by_cases h2 : b.ly = b.hy
    · have e2 : (b.ly == b.hy) = true := by simpa using h2
      rw [decide_eq_true h2, Bool.true_and] at h
      have e3 : (b.lz == b.hz) = r := by rw [← h]; rfl
      clear h h2
      go_enter Tryz.func41, Tryz.ntmps41
      go_wp2
      go_ret
      exact Ret.of (by (repeat (first | exact grow_refl _ | refine grow_ext _ ?_ | refine grow_alloc _ ?_ | refine grow_drew ?_)))
    · have e2 : (b.ly == b.hy) = false := by simpa using h2
      rw [decide_eq_false h2, Bool.false_and] at h
      subst h
      clear h2
      go_enter Tryz.func41, Tryz.ntmps41
      go_wp2
      go_ret
      exact Ret.of (by (repeat (first | exact grow_refl _ | refine grow_ext _ ?_ | refine grow_alloc _ ?_ | refine grow_drew ?_)))

theorem refRound21_c (d : Int) (hd : 0 ≤ d ∧ d ≤ 1000000) (w : World) : Calls Tryz.prog 39 #[.int .i64 d] w (Ret w (.int .i64 (halfI d))) := by
  have e : Int.tdiv (d + 1) 2 = (d + 1) / 2 := Int.tdiv_eq_ediv_of_nonneg (by omega)
  unfold halfI
  go_enter Tryz.func39, Tryz.ntmps39
  go_wp2
  go_ret
  exact Ret.of (by (repeat (first | exact grow_refl _ | refine grow_ext _ ?_ | refine grow_alloc _ ?_ | refine grow_drew ?_)))

theorem run_bar_size (mark : ByteArray) (size count code : Int) (ad : Option Addr) (n cd : Nat) (w : World) :
    (Instr.field 70 (.agg #[.string mark, .int .i64 size, .int .i64 count, .int .i64 code, .slice ad n cd]) 1).run Tryz.prog w = .ok (.int .i64 size) w := by kernel_rfl
theorem run_bar_mark (mark : ByteArray) (size count code : Int) (ad : Option Addr) (n cd : Nat) (w : World) :
    (Instr.field 70 (.agg #[.string mark, .int .i64 size, .int .i64 count, .int .i64 code, .slice ad n cd]) 0).run Tryz.prog w = .ok (.string mark) w := by kernel_rfl
attribute [local go_sem] run_bar_size

def RetRcs (w : World) (l : List Rc) (e : Ending) (W : World) : Prop := ∃ v, e = .returned v ∧ W.ownsRow w.heap.size 40 7 v l.length (rcCells l) ∧ ∃ x, W = ext w x

set_option maxRecDepth 100000 in
set_option maxHeartbeats 8000000 in
theorem refCuts21_c (l : List Br) (rs : List Rn) (v u : Value) (x : Int) (hv : laidB l rs = true) (hx : -1048576 ≤ x ∧ x ≤ 1048576) (w : World) (hl : Bars w v l) (hr : Runs w u rs) :
    Calls Tryz.prog 12 #[v, u, .int .i64 x] w (RetRcs w (rcI l rs x)) := by
  have HL := Lib.hid hl
  have HR := Lib.hid hr
  have HV := Lib.hid hv
  have HCO := Lib.hid (fun w hr => refCount16_c rs u (laidB_iff.1 hv).2.1 (laid_counts hv) w hr)
  have hcl := count_le hv rs.length
  rw [List.take_length] at hcl
  obtain ⟨k0, _, k2⟩ := hcl
  have HCI := Lib.hid (show rcI l rs x = rcTo l rs x (countS rs).toNat from rfl)
  obtain ⟨N, hN⟩ : ∃ N, countS rs = N := ⟨_, rfl⟩
  rw [hN] at HCO k0 k2 HCI
  have HN := Lib.hid hN
  obtain ⟨x0, x1⟩ := hx
  clear hl hr hv hN
  go_enter Tryz.func12, Tryz.ntmps12
  go_wp2_with fail
  go_loopw [7, 8] (fun v i wr => ∃ k : Nat, (k : Int) ≤ N ∧ i = .int .i64 k ∧ (∃ y, wr = ext w y) ∧ wr.ownsRow w.heap.size 40 7 v (rcTo l rs x k).length (rcCells (rcTo l rs x k))) (fun _ i _ => N.toNat - (intOf i).toNat)
  case atStart => exact ⟨0, by omega, rfl, ext_of (Below.refl _ _), World.ownsRow_nil _ _ _ _⟩
  case round =>
    obtain ⟨k, hk, rfl, ⟨y, rfl⟩, hown⟩ := hrel
    have HO := Lib.hid hown
    obtain ⟨av, cv, rfl, hv1, hv2, -⟩ := own_shape hown
    have hv3 : cv ≤ 9223372036854775807 := hv2
    clear hown
    by_cases hlt : (k : Int) < N
    · have q1 : (0 : Int) ≤ (k : Int) := by omega
      have q2 : (k : Int) < countS rs := by rw [HN.out]; exact hlt
      have hsz := size_of HV.out q1 q2
      have HLG := Lib.hid (fun w hl hr => refLegs_c l rs v u k HV.out q1 q2 w hl hr)
      have HBA := Lib.hid (fun w hl hr => refBar_c l rs v u k HV.out q1 q2 w hl hr)
      have HLV := Lib.hid (legsI_valid HV.out q1 q2)
      have HCS := Lib.hid (rcTo_succ l rs x k)
      have hca : rcAt l rs x k = (legsI l rs k).filterMap (rcOf (sizeI l rs k) x k) := rfl
      rw [hca] at HCS
      have HCL := Lib.hid (rcTo_len l rs x k)
      have hll : (legsI l rs k).length ≤ 6 := by
        have h2 := pathI_len l rs k
        have h3 : (legsI l rs k).length = (pathI l rs k).length - 1 := legsP_len _
        omega
      have hd6 := size_iff.1 hsz
      have HRD := Lib.hid (fun w => refRound21_c (sizeI l rs k) (by omega) w)
      have hh : 0 ≤ halfI (sizeI l rs k) ∧ halfI (sizeI l rs k) ≤ 20 := by unfold halfI; omega
      obtain ⟨h0, h20⟩ := hh
      have hbs : (barOf l (markI rs k)).size = sizeI l rs k := rfl
      obtain ⟨qq, hqq, eb⟩ := List.getElem_of_mem (bar_mem (mark_of HV.out q1 q2).2.1)
      obtain ⟨_, _, -, -, -, g4⟩ := HL.out.shape
      obtain ⟨ad, cd, ev, -, -, -⟩ := (g4 qq hqq).1.dims
      rw [eb] at ev
      clear g4 eb hqq
      obtain ⟨b, hb⟩ : ∃ b, barOf l (markI rs k) = b := ⟨_, rfl⟩
      rw [hb] at HBA hbs ev
      generalize rcTo l rs x k = CT at *
      generalize hlg : legsI l rs k = LG at *
      obtain ⟨D, hD⟩ : ∃ D, sizeI l rs k = D := ⟨_, rfl⟩
      rw [hD] at HCS HRD h0 h20 hbs
      obtain ⟨mark, size, count, code, dims, dv⟩ := b
      simp only at hbs ev
      subst hbs ev
      obtain ⟨H, hH⟩ : ∃ H, halfI size = H := ⟨_, rfl⟩
      rw [hH] at HRD h0 h20
      have HH := Lib.hid hH
      clear hsz hca hlg hH q2 hb hd6 hD
      go_wp2_with fail
      go_at_call 37; refine (HCO.out _ (HR.out.below (by (repeat (first | exact grow_refl _ | refine grow_ext _ ?_ | refine grow_alloc _ ?_ | refine grow_drew ?_))))).mono ?_; rintro e w' ⟨rfl, y0, rfl⟩
      go_wp2_with fail
      go_at_call 38; refine (HLG.out _ (HL.out.below (by (repeat (first | exact grow_refl _ | refine grow_ext _ ?_ | refine grow_alloc _ ?_ | refine grow_drew ?_)))) (HR.out.below (by (repeat (first | exact grow_refl _ | refine grow_ext _ ?_ | refine grow_alloc _ ?_ | refine grow_drew ?_))))).mono ?_; rintro e w' ⟨v15, rfl, hown15, y1, rfl⟩
      have HO15 := Lib.hid (own_mono (base' := w.heap.size) hown15 (by rw [size_ext, size_ext]; omega))
      obtain ⟨a15, c15, rfl, k15, m15, -⟩ := own_shape hown15
      have n15 : c15 ≤ 9223372036854775807 := m15
      clear hown15
      go_wp2_with fail
      go_at_call 40; refine (HBA.out _ (HL.out.below (by (repeat (first | exact grow_refl _ | refine grow_ext _ ?_ | refine grow_alloc _ ?_ | refine grow_drew ?_)))) (HR.out.below (by (repeat (first | exact grow_refl _ | refine grow_ext _ ?_ | refine grow_alloc _ ?_ | refine grow_drew ?_))))).mono ?_; rintro e w' ⟨rfl, y2, rfl⟩
      go_wp2_with fail
      go_at_call 39; refine (HRD.out _).mono ?_; rintro e w' ⟨rfl, y3, rfl⟩
      go_wp2_with fail
      refine world_mask (fun W => (∃ z, W = ext w z) ∧ W.ownsRow w.heap.size 38 6 (.slice a15 LG.length c15) LG.length (boxCells LG) ∧ W.ownsRow w.heap.size 40 7 (.slice av CT.length cv) CT.length (rcCells CT)) _ ⟨ext_of (by (repeat (first | exact grow_refl _ | refine grow_ext _ ?_ | refine grow_alloc _ ?_ | refine grow_drew ?_))), own_ext (own_ext HO15.out _) _, own_ext (own_ext (own_ext (own_ext HO.out _) _) _) _⟩ ?_
      clear HO15 HO
      rintro W2 ⟨hz, hbx, hro⟩
      go_loopw [7, 11] (fun v i wr => ∃ j : Nat, j ≤ LG.length ∧ i = .int .i64 j ∧ (∃ z, wr = ext w z) ∧ wr.ownsRow w.heap.size 38 6 (.slice a15 LG.length c15) LG.length (boxCells LG) ∧ wr.ownsRow w.heap.size 40 7 v (CT ++ (LG.take j).filterMap (rcOf size x k)).length (rcCells (CT ++ (LG.take j).filterMap (rcOf size x k)))) (fun _ i _ => LG.length - (intOf i).toNat)
      case atStart => exact ⟨0, by omega, rfl, hz, hbx, by simpa using hro⟩
      case round =>
        clear hro hz hbx
        obtain ⟨j, hj, rfl, ⟨z, rfl⟩, hbx4, hown4⟩ := hrel
        have HBX := Lib.hid hbx4
        obtain ⟨a', c', e', _, _, hbc⟩ := Boxes.of_own hbx4
        cases e'
        have HBC := Lib.hid hbc
        clear hbc hbx4
        have HO4 := Lib.hid hown4
        obtain ⟨av, cv, rfl, hv1, hv2, -⟩ := own_shape hown4
        have hv3 : cv ≤ 9223372036854775807 := hv2
        have hfl := List.length_filterMap_le (rcOf size x k) (LG.take j)
        rw [List.length_take] at hfl
        have hlb : (CT ++ (LG.take j).filterMap (rcOf size x k)).length ≤ 12006 := by rw [List.length_append]; have := HCL.out; omega
        clear hown4 hfl
        by_cases hltj : j < LG.length
        · have q5 : (0 : Int) ≤ (j : Int) := by omega
          have q6 : (j : Int) < (LG.length : Int) := by omega
          obtain ⟨b0, off, rfl, hbx⟩ := HBC.out j hltj
          have hft := filter_take_rc (f := rcOf size x k) hltj
          have hbv := HLV.out _ (List.getElem_mem hltj)
          obtain ⟨b, hb⟩ : ∃ b, LG[j] = b := ⟨_, rfl⟩
          rw [hb] at hbx hft hbv
          obtain ⟨c0, c1, c2, c3, c4, c5⟩ := hbx
          have HFT : Hid (CT ++ (LG.take (j + 1)).filterMap (rcOf size x k) = (CT ++ (LG.take j).filterMap (rcOf size x k)) ++ (match rcOf size x k b with | some c => [c] | none => [])) := by rw [hft, List.append_assoc]; exact Lib.hid rfl
          generalize CT ++ (LG.take j).filterMap (rcOf size x k) = L at *
          have hvb := valid_iff.1 hbv
          obtain ⟨v1, v2, v3, v4, v5, v6, v7, v8, v9⟩ := hvb
          clear hb hft hbv
          cases g3 : along3 b
          · have HA := Lib.hid (fun w => refAlong21_v b false g3 w)
            have HNO := Lib.hid (show (match rcOf size x k b with | some c => [c] | none => []) = [] by
              have : alongB x b = false := by
                unfold along3 at g3; unfold alongB
                cases e1 : decide (b.lx < b.hx)
                · rfl
                · rw [e1, Bool.true_and] at g3
                  rw [← Bool.and_assoc (decide (b.ly = b.hy)), g3]; rfl
              unfold rcOf; rw [this]; rfl)
            clear g3
            go_wp2_with fail
            go_at_call 41; refine (HA.out _).mono ?_; rintro e w' ⟨rfl, y4, rfl⟩
            go_wp2
            go_roundw
            case rel => exact ⟨j + 1, by omega, by go_num, ext_of (grow_ext _ (grow_alloc _ (below_ext _ _))), own_ext (HBX.out.alloc _) _, by rw [HFT.out, HNO.out, List.append_nil]; exact own_ext (HO4.out.alloc _) _⟩
            case measure => simp [intOf]; omega
          · have HA := Lib.hid (fun w => refAlong21_v b true g3 w)
            have g3' := g3
            unfold along3 at g3'
            simp only [Bool.and_eq_true, decide_eq_true_iff] at g3'
            obtain ⟨f1, f2, f3⟩ := g3'
            have HAB := Lib.hid (show alongB x b = (decide (b.lx ≤ x) && decide (x ≤ b.hx)) by
              unfold alongB inI; rw [decide_eq_true f1, decide_eq_true f2, decide_eq_true f3]; rfl)
            have HF := Lib.hid (show b.ly = b.hy ∧ b.lz = b.hz from ⟨f2, f3⟩)
            clear g3 f2 f3
            cases e1 : decide (b.lx ≤ x)
            · have HNO := Lib.hid (show (match rcOf size x k b with | some c => [c] | none => []) = [] by unfold rcOf; rw [HAB.out, e1]; rfl)
              go_wp2_with fail
              go_at_call 41; refine (HA.out _).mono ?_; rintro e w' ⟨rfl, y4, rfl⟩
              go_wp2
              go_roundw
              case rel => exact ⟨j + 1, by omega, by go_num, ext_of (grow_ext _ (grow_alloc _ (below_ext _ _))), own_ext (HBX.out.alloc _) _, by rw [HFT.out, HNO.out, List.append_nil]; exact own_ext (HO4.out.alloc _) _⟩
              case measure => simp [intOf]; omega
            · cases e2 : decide (x ≤ b.hx)
              · have HNO := Lib.hid (show (match rcOf size x k b with | some c => [c] | none => []) = [] by unfold rcOf; rw [HAB.out, e1, e2]; rfl)
                go_wp2_with fail
                go_at_call 41; refine (HA.out _).mono ?_; rintro e w' ⟨rfl, y4, rfl⟩
                go_wp2
                go_roundw
                case rel => exact ⟨j + 1, by omega, by go_num, ext_of (grow_ext _ (grow_alloc _ (below_ext _ _))), own_ext (HBX.out.alloc _) _, by rw [HFT.out, HNO.out, List.append_nil]; exact own_ext (HO4.out.alloc _) _⟩
                case measure => simp [intOf]; omega
              · have HYES := Lib.hid (show (match rcOf size x k b with | some c => [c] | none => []) = [⟨⟨x, b.ly - H, b.lz - H, x, b.hy + H, b.hz + H⟩, k⟩] by
                  unfold rcOf; rw [HAB.out, e1, e2]; simp only [Bool.true_and, if_true, cutBox, HH.out, HF.out.1, HF.out.2])
                go_wp2_with fail
                go_at_call 41; refine (HA.out _).mono ?_; rintro e w' ⟨rfl, y4, rfl⟩
                go_wp2_with (at_builtin; refine app_own_b rfl _ _ 33 rfl 40 (.agg #[.int .i64 0, .int .i64 0, .int .i64 0, .int .i64 0, .int .i64 0, .int .i64 0, .int .i64 0]) 7 56 Tryz.underlying33 info_rc rfl (by decide) (w.heap.size) (.slice av L.length cv) (L.length) (rcCells L) _ rfl (((own_ext (HO4.out.alloc _) _).alloc _)) _ 1 1 (rcCells [⟨⟨x, b.ly - H, b.lz - H, x, b.hy + H, b.hz + H⟩, k⟩]) rfl rfl (cells_new ?_ _ _ _ rfl) (rcCells_one _) (by omega) (by decide) ?_ ?_; (first | rfl | simp [size_ext]); (simp only [World.size_alloc, size_ext]; omega); intro v' w1 hown' hgrow; have HO2 := Lib.hid hown'; obtain ⟨a', c', rfl, _, hc2, -⟩ := own_shape hown'; have hc3 : c' ≤ 9223372036854775807 := hc2; have HGR := Lib.hid hgrow; clear hown' hgrow hc2)
                go_roundw
                case rel =>
                  refine ⟨j + 1, by omega, by go_num, ?_, ?_, ?_⟩
                  · exact ext_grown2 (grow_alloc _ (grow_ext _ (grow_alloc _ (below_ext _ _)))) HGR.out (fun q e => (HO4.out.lt q e).1)
                  · exact ((own_ext (HBX.out.alloc _) y4).alloc _).kept HGR.out (own_ne HBX.out HO4.out (by decide))
                  · rw [HFT.out, HYES.out]
                    exact own_rcs HO2.out rfl
                case measure => simp [intOf]; omega
        · obtain rfl : j = LG.length := by omega
          rw [List.take_length] at HO4
          clear hlb
          go_wp2
          go_roundw
          case rel => exact ⟨k + 1, by omega, by go_num, ⟨_, rfl⟩, by rw [HCS.out]; simp only [List.take_length]; exact HO4.out⟩
          case measure => simp [intOf]; omega
    · obtain rfl : (k : Int) = N := by omega
      go_wp2_with fail
      go_at_call 37; refine (HCO.out _ (HR.out.below (by (repeat (first | exact grow_refl _ | refine grow_ext _ ?_ | refine grow_alloc _ ?_ | refine grow_drew ?_))))).mono ?_; rintro e w' ⟨rfl, y0, rfl⟩
      go_wp2
      go_ret
      rw [HCI.out]
      exact ⟨_, rfl, own_ext HO.out _, ext_of (by (repeat (first | exact grow_refl _ | refine grow_ext _ ?_ | refine grow_alloc _ ?_ | refine grow_drew ?_)))⟩

end Go.Proofs.YtofjopdcbmaijaaGreat

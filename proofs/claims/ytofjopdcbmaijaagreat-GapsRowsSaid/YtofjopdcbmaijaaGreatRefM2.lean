/- The reference's legs of a laid bar: stirrupref12.Hull of two points, stirrupref16.Legs. -/
import Derived.Test.YtofjopdcbmaijaaGreatRefM1
namespace Go.Proofs.YtofjopdcbmaijaaGreat
open Go.RowKit
set_option maxRecDepth 20000

set_option maxRecDepth 100000 in
set_option maxHeartbeats 4000000 in
theorem refHull2_c (p q : Pt) (v : Value) (w : World) (hv : Pts w v [p, q]) : Calls Tryz.prog 84 #[v] w (Ret w (.agg #[.int .i64 (legB p q).lx, .int .i64 (legB p q).ly, .int .i64 (legB p q).lz, .int .i64 (legB p q).hx, .int .i64 (legB p q).hy, .int .i64 (legB p q).hz])) := by
  obtain ⟨a, cap, rfl, h2, h3, h4⟩ := hv.shape
  obtain ⟨b0, off, rfl, p0, p1, p2⟩ := h4 0 (by simp)
  obtain ⟨b1, off1, e1, q0, q1, q2⟩ := h4 1 (by simp)
  cases e1
  simp only [List.getElem_cons_zero, List.getElem_cons_succ, List.length_cons, List.length_nil, Nat.zero_mul, Nat.one_mul, Nat.add_zero, Nat.zero_add] at p0 p1 p2 q0 q1 q2 h2 ⊢
  have HE := Lib.hid (show legB p q = ⟨min p.x q.x, min p.y q.y, min p.z q.z, max p.x q.x, max p.y q.y, max p.z q.z⟩ from rfl)
  clear hv h4
  go_enter Tryz.func84, Tryz.ntmps84
  go_wp2_with fail
  go_region
  go_wp2_with fail
  refine wp_loop_rounds 2 ?_
  rw [rounds_succ]
  go_wp2
  rw [rounds_succ]
  go_wp2
  rw [HE.out]
  refine bodyPost_ret (v := (.agg #[.int .i64 (⟨min p.x q.x, min p.y q.y, min p.z q.z, max p.x q.x, max p.y q.y, max p.z q.z⟩ : Bx).lx, .int .i64 (⟨min p.x q.x, min p.y q.y, min p.z q.z, max p.x q.x, max p.y q.y, max p.z q.z⟩ : Bx).ly, .int .i64 (⟨min p.x q.x, min p.y q.y, min p.z q.z, max p.x q.x, max p.y q.y, max p.z q.z⟩ : Bx).lz, .int .i64 (⟨min p.x q.x, min p.y q.y, min p.z q.z, max p.x q.x, max p.y q.y, max p.z q.z⟩ : Bx).hx, .int .i64 (⟨min p.x q.x, min p.y q.y, min p.z q.z, max p.x q.x, max p.y q.y, max p.z q.z⟩ : Bx).hy, .int .i64 (⟨min p.x q.x, min p.y q.y, min p.z q.z, max p.x q.x, max p.y q.y, max p.z q.z⟩ : Bx).hz])) (by simp [results, Tryz.results84, go_sem]) rfl ?_
  exact Ret.of (by (repeat (first | exact grow_refl _ | refine grow_ext _ ?_ | refine grow_alloc _ ?_ | refine grow_drew ?_)))

def RetBxsO (w : World) (l : List Bx) (e : Ending) (W : World) : Prop := ∃ v, e = .returned v ∧ W.ownsRow w.heap.size 38 6 v l.length (boxCells l) ∧ ∃ x, W = ext w x

set_option maxRecDepth 100000 in
set_option maxHeartbeats 4000000 in
theorem refLegs_c (l : List Br) (rs : List Rn) (v u : Value) (i : Int) (hv : laidB l rs = true) (h0 : 0 ≤ i) (hi : i < countS rs) (w : World) (hl : Bars w v l) (hr : Runs w u rs) :
    Calls Tryz.prog 38 #[v, u, .int .i64 i] w (RetBxsO w (legsI l rs i)) := by
  have HP := Lib.hid (fun w hl hr => refPts_c l rs v u i hv h0 hi w hl hr)
  have HL := Lib.hid hl
  have HR := Lib.hid hr
  have hlen := pathI_len l rs i
  have HI := Lib.hid (show legsI l rs i = legsP (pathI l rs i) from rfl)
  obtain ⟨P, hP⟩ : ∃ P, pathI l rs i = P := ⟨_, rfl⟩
  rw [hP] at HP HI hlen
  clear hv h0 hi hP hl hr
  go_enter Tryz.func38, Tryz.ntmps38
  go_wp2_with fail
  go_at_call 83; refine (HP.out _ (HL.out.below (by (repeat (first | exact grow_refl _ | refine grow_ext _ ?_ | refine grow_alloc _ ?_ | refine grow_drew ?_)))) (HR.out.below (by (repeat (first | exact grow_refl _ | refine grow_ext _ ?_ | refine grow_alloc _ ?_ | refine grow_drew ?_))))).mono ?_; rintro e w' ⟨v8, rfl, hown0, x1, rfl⟩
  have hpt := Pts.of_own hown0
  obtain ⟨a, cap, rfl, h2, h3, h4⟩ := hpt.shape
  have H4 := Lib.hid h4
  clear hpt h4 hown0
  go_wp2_with fail
  go_loopw [8, 9] (fun v i wr => ∃ k : Nat, 1 ≤ k ∧ (k ≤ P.length ∨ k = 1) ∧ i = .int .i64 k ∧ (∃ x, wr = ext (ext w x1) x) ∧ wr.ownsRow (ext w x1).heap.size 38 6 v (k - 1) (boxCells (legsP (P.take k)))) (fun _ i _ => P.length - (intOf i).toNat)
  case atStart => exact ⟨1, by omega, .inr rfl, by go_num, ext_of (Below.refl _ _), by cases P with | nil => exact World.ownsRow_nil _ _ _ _ | cons p P => exact World.ownsRow_nil _ _ _ _⟩
  case round =>
    obtain ⟨k, hk1, hk, rfl, ⟨x, rfl⟩, hown⟩ := hrel
    have HO := Lib.hid hown
    obtain ⟨av, cv, rfl, hv1, hv2, -⟩ := own_shape hown
    have hv3 : cv ≤ 9223372036854775807 := hv2
    by_cases hlt : k < P.length
    · have q1 : (1 : Int) ≤ (k : Int) := by omega
      have q2 : (k : Int) < (P.length : Int) := by omega
      obtain ⟨b, off, rfl, hp0⟩ := H4.out (k - 1) (by omega)
      have q3 : 0 ≤ (k : Int) - 1 := by omega
      have q4 : (k : Int) - 1 ≤ (k : Int) + 1 := by omega
      have q5 : (k : Int) + 1 ≤ (cap : Int) := by omega
      have q6 : ((k : Int) + 1).toNat = k + 1 := by omega
      have hpair : Pts (ext (ext w x1) x) (.slice (some ⟨b, off + (k - 1) * 3, none⟩) 2 (cap - (k - 1))) [P[k - 1], P[k]] := by
        refine ⟨_, _, rfl, by simp; omega, by omega, fun j hj => ⟨b, _, rfl, ?_⟩⟩
        obtain ⟨b', off', e', hq0⟩ := H4.out k hlt
        cases e'
        rcases (show j = 0 ∨ j = 1 by simp at hj; omega) with rfl | rfl
        · exact hp0.ext x
        · rw [show off + (k - 1) * 3 + 1 * 3 = off + k * 3 by omega]; exact hq0.ext x
      have hlt2 := legsP_take hk1 hlt
      generalize P[k - 1] = p at *
      generalize P[k] = q at *
      have HPA := Lib.hid hpair
      have HLT := Lib.hid hlt2
      have hll := legsP_len (P.take k)
      rw [List.length_take] at hll
      have HLL := Lib.hid (show k - 1 = (legsP (P.take k)).length by omega)
      have HH := Lib.hid (fun v w hl => refHull2_c p q v w hl)
      generalize legB p q = L at *
      clear hown hpair hlt2 hp0 hll
      go_wp2_with fail
      rw [show k + 1 - (k - 1) = 2 by omega]
      go_at_call 84; refine (HH.out _ _ HPA.out).mono ?_; rintro e w' ⟨rfl, x3, rfl⟩
      go_wp2_with (at_builtin; refine app_own_b rfl _ _ 26 rfl 38 (.agg #[.int .i64 0, .int .i64 0, .int .i64 0, .int .i64 0, .int .i64 0, .int .i64 0]) 6 48 Tryz.underlying26 info_box' rfl (by decide) ((ext w x1).heap.size) (.slice av (k - 1) cv) (k - 1) (boxCells (legsP (P.take k))) _ rfl ((own_ext HO.out _).alloc _) _ 1 1 (boxCells [L]) rfl rfl (cells_new ?_ _ _ _ rfl) (boxCells_one _) (by omega) (by decide) ?_ ?_; (first | rfl | simp [size_ext]); (simp only [World.size_alloc, size_ext]; omega); intro v' w1 hown' hgrow; have HO2 := Lib.hid hown'; obtain ⟨a', c', rfl, _, hc2, -⟩ := own_shape hown'; have hc3 : c' ≤ 9223372036854775807 := hc2; have HGR := Lib.hid hgrow; clear hown' hgrow hc2)
      go_roundw
      case rel =>
        refine ⟨k + 1, by omega, .inl (by omega), by go_num, ?_, ?_⟩
        · exact ext_grown2 (w := ext w x1) (grow_alloc _ (grow_ext _ (below_ext _ _))) HGR.out (fun j e => (HO.out.lt j e).1)
        · rw [HLT.out]
          have := own_bxs HO2.out HLL.out
          rw [List.length_append, ← HLL.out, List.length_singleton, show k - 1 + 1 = k by omega] at this
          rw [show k + 1 - 1 = k by omega]
          exact this
      case measure => simp [intOf]; omega
    · have hkl : P.length ≤ k := by omega
      have HF := Lib.hid (show legsP (P.take k) = legsP P by rw [List.take_of_length_le hkl])
      have hll := legsP_len P
      have HLL := Lib.hid (show k - 1 = (legsP P).length by omega)
      clear hown hll
      go_wp2
      go_ret
      exact ⟨_, rfl, by rw [HI.out, ← HLL.out, ← HF.out]; exact own_mono HO.out (by simp only [size_ext]; omega), ext_of (by (repeat (first | exact grow_refl _ | refine grow_ext _ ?_ | refine grow_alloc _ ?_ | refine grow_drew ?_)))⟩

end Go.Proofs.YtofjopdcbmaijaaGreat

/- The legs of a laid bar: laid.Legs. -/
import Derived.Test.YtofjopdcbmaijaaLaidN
namespace Go.Proofs.Ytofjopdcbmaijaa
open Go.RowKit
set_option maxRecDepth 20000

def legsE (l : List Br) (rs : List Rn) (i : Int) : List Bx × Int := if laidB l rs = true then (if 0 ≤ i ∧ i < countS rs then (legsI l rs i, 0) else ([], 2)) else ([], 1)
/-- A slice of boxes of the call's own, and an error number. -/
def RetBxs (w : World) (l : List Bx) (err : Int) (e : Ending) (w' : World) : Prop :=
  ∃ v, e = .returned (.tuple #[v, .int .i64 err]) ∧ w'.ownsRow w.heap.size 52 6 v l.length (boxCells l) ∧ ∃ x, w' = ext w x

set_option maxRecDepth 100000 in
set_option maxHeartbeats 4000000 in
theorem legsLaid_c (l : List Br) (rs : List Rn) (v u : Value) (i : Int) (w : World) (hl : Bars w v l) (hr : Runs w u rs) :
    Calls Try.prog 41 #[v, u, .int .i64 i] w (RetBxs w (legsE l rs i).1 (legsE l rs i).2) := by
  have HP := Lib.hid (fun w hl hr => path_c l rs v u i w hl hr)
  have HL := Lib.hid hl
  have HR := Lib.hid hr
  clear hl hr
  by_cases hok : laidB l rs = true ∧ 0 ≤ i ∧ i < countS rs
  · obtain ⟨hv, h0, hi⟩ := hok
    have HE := Lib.hid (show legsE l rs i = (legsI l rs i, 0) by unfold legsE; rw [if_pos hv, if_pos ⟨h0, hi⟩])
    rw [show pathE l rs i = (pathI l rs i, 0) by unfold pathE; rw [if_pos hv, if_pos ⟨h0, hi⟩]] at HP
    have hn := pathI_near hv h0 hi
    have hlen := pathI_len l rs i
    have HI := Lib.hid (show legsI l rs i = legsP (pathI l rs i) from rfl)
    obtain ⟨P, hP⟩ : ∃ P, pathI l rs i = P := ⟨_, rfl⟩
    rw [hP] at HP HI hn hlen
    have HN := Lib.hid hn
    clear hv h0 hi hn hP
    go_enter Try.func41, Try.ntmps41
    go_wp2_with fail
    go_at_call 54; refine (HP.out _ (HL.out.below (by (repeat (first | exact grow_refl _ | refine grow_ext _ ?_ | refine grow_alloc _ ?_ | refine grow_drew ?_)))) (HR.out.below (by (repeat (first | exact grow_refl _ | refine grow_ext _ ?_ | refine grow_alloc _ ?_ | refine grow_drew ?_))))).mono ?_; rintro e w' ⟨v8, rfl, hpt, x1, rfl⟩
    obtain ⟨a, cap, rfl, h2, h3, h4⟩ := hpt.shape
    have H4 := Lib.hid h4
    have HPT := Lib.hid hpt
    clear hpt h4
    go_wp2_with fail
    go_loopw [10, 11] (fun v i wr => ∃ k : Nat, 1 ≤ k ∧ (k ≤ P.length ∨ k = 1) ∧ i = .int .i64 k ∧ (∃ x, wr = ext (ext w x1) x) ∧ wr.ownsRow (ext w x1).heap.size 52 6 v (k - 1) (boxCells (legsP (P.take k)))) (fun _ i _ => P.length - (intOf i).toNat)
    case atStart => exact ⟨1, by omega, .inr rfl, by go_num, ext_of (Below.refl _ _), by cases P with | nil => exact World.ownsRow_nil _ _ _ _ | cons p P => exact World.ownsRow_nil _ _ _ _⟩
    case round =>
      obtain ⟨k, hk1, hk, rfl, ⟨x, rfl⟩, hown⟩ := hrel
      have HO := Lib.hid hown
      obtain ⟨av, cv, rfl, hv1, hv2, -⟩ := own_shape hown
      have hv3 : cv ≤ 9223372036854775807 := hv2
      by_cases hlt : k < P.length
      · have q1 : (1 : Int) ≤ (k : Int) := by omega
        have q2 : (k : Int) < (P.length : Int) := by omega
        obtain ⟨b, off, rfl, hp0⟩ := H4.out (k - 1) (by omega)
        have q3 : 0 ≤ (k : Int) - 1 := by omega
        have q4 : (k : Int) - 1 ≤ (k : Int) + 1 := by omega
        have q5 : (k : Int) + 1 ≤ (cap : Int) := by omega
        have q6 : ((k : Int) + 1).toNat = k + 1 := by omega
        have hpair : Pts (ext (ext w x1) x) (.slice (some ⟨b, off + (k - 1) * 3, none⟩) 2 (cap - (k - 1))) [P[k - 1], P[k]] := by
          refine ⟨_, _, rfl, by simp; omega, by omega, fun j hj => ⟨b, _, rfl, ?_⟩⟩
          obtain ⟨b', off', e', hq0⟩ := H4.out k hlt
          cases e'
          rcases (show j = 0 ∨ j = 1 by simp at hj; omega) with rfl | rfl
          · exact hp0.ext x
          · rw [show off + (k - 1) * 3 + 1 * 3 = off + k * 3 by omega]; exact hq0.ext x
        have hlt2 := legsP_take hk1 hlt
        have hpn := HN.out _ (List.getElem_mem (show k - 1 < P.length by omega))
        have hqn := HN.out _ (List.getElem_mem hlt)
        generalize P[k - 1] = p at *
        generalize P[k] = q at *
        have HPA := Lib.hid hpair
        have HLT := Lib.hid hlt2
        have hll := legsP_len (P.take k)
        rw [List.length_take] at hll
        have HLL := Lib.hid (show k - 1 = (legsP (P.take k)).length by omega)
        have HH := Lib.hid (fun v w hl => Hull_c [ptB p, ptB q] v w hl)
        rw [hull_two hpn hqn] at HH
        generalize legB p q = L at *
        simp only at HH
        clear hown hpair hlt2 hpn hqn hp0 hll
        go_wp2_with fail
        rw [show k + 1 - (k - 1) = 2 by omega]
        go_at_call 56; refine (points_c [p, q] _ (by simp) _ HPA.out).mono ?_; rintro e w' ⟨v2, rfl, hown2, x2, rfl⟩
        have HO3 := Lib.hid (Boxes.of_own hown2)
        clear hown2
        go_wp2_with fail
        go_at_call 55; refine (HH.out _ _ HO3.out).mono ?_; rintro e w' ⟨rfl, x3, rfl⟩
        go_wp2_with (at_builtin; refine app_own_b rfl _ _ 48 rfl 52 (.agg #[.int .i64 0, .int .i64 0, .int .i64 0, .int .i64 0, .int .i64 0, .int .i64 0]) 6 48 Try.underlying48 info_box' rfl (by decide) ((ext w x1).heap.size) (.slice av (k - 1) cv) (k - 1) (boxCells (legsP (P.take k))) _ rfl (((own_ext (own_ext HO.out _) _).alloc _).alloc _) _ 1 1 (boxCells [L]) rfl rfl (cells_new ?_ _ _ _ rfl) (boxCells_one _) (by omega) (by decide) ?_ ?_; (first | rfl | simp [size_ext]); (simp only [World.size_alloc, size_ext]; omega); intro v' w1 hown' hgrow; have HO2 := Lib.hid hown'; obtain ⟨a', c', rfl, _, hc2, -⟩ := own_shape hown'; have hc3 : c' ≤ 9223372036854775807 := hc2; have HGR := Lib.hid hgrow; clear hown' hgrow hc2)
        go_roundw
        case rel =>
          refine ⟨k + 1, by omega, .inl (by omega), by go_num, ?_, ?_⟩
          · exact ext_grown2 (w := ext w x1) (grow_alloc _ (grow_alloc _ (grow_ext _ (grow_ext _ (below_ext _ _))))) HGR.out (fun j e => (HO.out.lt j e).1)
          · rw [HLT.out]
            have := own_bxs HO2.out HLL.out
            rw [List.length_append, ← HLL.out, List.length_singleton, show k - 1 + 1 = k by omega] at this
            rw [show k + 1 - 1 = k by omega]
            exact this
        case measure => simp [intOf]; omega
      · have hkl : P.length ≤ k := by omega
        have HF := Lib.hid (show legsP (P.take k) = legsP P by rw [List.take_of_length_le hkl])
        have hll := legsP_len P
        have HLL := Lib.hid (show k - 1 = (legsP P).length by omega)
        clear hown hll
        go_wp2
        go_ret2
        rw [HE.out]
        exact ⟨_, rfl, by rw [HI.out, ← HLL.out, ← HF.out]; exact own_mono HO.out (by simp only [size_ext]; omega), ext_of (by (repeat (first | exact grow_refl _ | refine grow_ext _ ?_ | refine grow_alloc _ ?_ | refine grow_drew ?_)))⟩
  · have HE := Lib.hid (show legsE l rs i = ([], (pathE l rs i).2) ∧ (pathE l rs i).1 = [] ∧ (pathE l rs i).2 ≠ 0 by
      unfold legsE pathE
      by_cases hv : laidB l rs = true
      · have : ¬ (0 ≤ i ∧ i < countS rs) := fun h => hok ⟨hv, h⟩
        rw [if_pos hv, if_neg this, if_pos hv, if_neg this]; simp
      · rw [if_neg hv, if_neg hv]; simp)
    obtain ⟨e1, e2, e3⟩ := HE.out
    rw [e2] at HP
    rw [e1]
    generalize (pathE l rs i).2 = E at *
    have d1 : (E != 0) = true := by simpa using e3
    clear hok HE e1 e2 e3
    go_enter Try.func41, Try.ntmps41
    go_wp2_with fail
    go_at_call 54; refine (HP.out _ (HL.out.below (by (repeat (first | exact grow_refl _ | refine grow_ext _ ?_ | refine grow_alloc _ ?_ | refine grow_drew ?_)))) (HR.out.below (by (repeat (first | exact grow_refl _ | refine grow_ext _ ?_ | refine grow_alloc _ ?_ | refine grow_drew ?_))))).mono ?_; rintro e w' ⟨v8, rfl, hpt, x1, rfl⟩
    clear hpt
    go_wp2
    go_ret2
    exact ⟨_, rfl, World.ownsRow_nil _ _ _ _, ext_of (by (repeat (first | exact grow_refl _ | refine grow_ext _ ?_ | refine grow_alloc _ ?_ | refine grow_drew ?_)))⟩

end Go.Proofs.Ytofjopdcbmaijaa

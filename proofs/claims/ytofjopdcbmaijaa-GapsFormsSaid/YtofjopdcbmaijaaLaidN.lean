/- The legs of a laid bar: laid.points, laid.Legs. -/
import Derived.Test.YtofjopdcbmaijaaLaidM
import Derived.Test.YtofjopdcbmaijaaHull
import Derived.Test.YtofjopdcbmaijaaAwake0
namespace Go.Proofs.Ytofjopdcbmaijaa
open Go.RowKit
set_option maxRecDepth 20000

theorem between {a s j c m : Int} (h0 : -m ≤ a ∧ a ≤ m) (h1 : -m ≤ a + c * s ∧ a + c * s ≤ m) (hj : 0 ≤ j ∧ j ≤ c) : -m ≤ a + j * s ∧ a + j * s ≤ m := by
  rcases Int.le_total 0 s with hs | hs
  · have p1 : 0 ≤ j * s := Int.mul_nonneg hj.1 hs
    have p2 : j * s ≤ c * s := Int.mul_le_mul_of_nonneg_right hj.2 hs
    omega
  · have p1 : j * s ≤ 0 := Int.mul_nonpos_of_nonneg_of_nonpos hj.1 hs
    have p2 : c * s ≤ j * s := Int.mul_le_mul_of_nonpos_right hj.2 hs
    omega
theorem placeR_some {l : List Br} {rs : List Rn} (h : ∀ r ∈ rs, runB l r = true) {i : Int} (h0 : 0 ≤ i) (hi : i < countS rs) : ∃ r j, placeR rs i = some (r, j) ∧ r ∈ rs ∧ 0 ≤ j ∧ j < r.count := by
  induction rs generalizing i with
  | nil => simp only [countS] at hi; omega
  | cons r rs ih =>
    simp only [placeR]
    by_cases hlt : i < r.count
    · rw [if_pos hlt]; exact ⟨r, i, rfl, List.mem_cons_self, h0, hlt⟩
    · rw [if_neg hlt]
      simp only [countS] at hi
      obtain ⟨r', j, e, hm, hj⟩ := ih (fun x hx => h x (List.mem_cons_of_mem _ hx)) (i := i - r.count) (by omega) (by omega)
      exact ⟨r', j, e, List.mem_cons_of_mem _ hm, hj⟩
theorem laidL_near {l : List Br} {r : Rn} (h : runB l r = true) {j : Int} (h0 : 0 ≤ j) (hj : j < r.count) : ∀ p ∈ laidL (barOf l r.mark) r j, NearP p 1048576 := by
  rw [runB_eq] at h
  simp only [Bool.and_eq_true] at h
  obtain ⟨_, _, h3, h4⟩ := h
  rw [List.all_eq_true] at h3 h4
  intro p hp
  unfold laidL at hp h3 h4
  obtain ⟨q, hq, rfl⟩ := List.mem_map.1 hp
  obtain ⟨a1, a2, a3⟩ := near_iff.1 (h3 _ (List.mem_map.2 ⟨q, hq, rfl⟩))
  obtain ⟨b1, b2, b3⟩ := near_iff.1 (h4 _ (List.mem_map.2 ⟨q, hq, rfl⟩))
  unfold laidP at *
  simp only [Int.zero_mul, Int.add_zero] at a1 a2 a3 b1 b2 b3 ⊢
  have hc : 0 ≤ j ∧ j ≤ r.count - 1 := by omega
  exact ⟨between a1 b1 hc, between a2 b2 hc, between a3 b3 hc⟩
theorem pathI_near {l : List Br} {rs : List Rn} (h : laidB l rs = true) {i : Int} (h0 : 0 ≤ i) (hi : i < countS rs) : ∀ p ∈ pathI l rs i, NearP p 1048576 := by
  obtain ⟨r, j, e, hm, hj0, hj⟩ := placeR_some (laidB_iff.1 h).2.2.1 h0 hi
  unfold pathI
  rw [e]
  exact laidL_near ((laidB_iff.1 h).2.2.1 r hm) hj0 hj
theorem pathI_len (l : List Br) (rs : List Rn) (i : Int) : (pathI l rs i).length ≤ 7 := by
  unfold pathI
  split
  · unfold laidL; rw [List.length_map]; exact (path_len _).2
  · exact Nat.zero_le _

def ptB (p : Pt) : Bx := ⟨p.x, p.y, p.z, p.x, p.y, p.z⟩
def legB (p q : Pt) : Bx := ⟨min p.x q.x, min p.y q.y, min p.z q.z, max p.x q.x, max p.y q.y, max p.z q.z⟩
/-- The legs of a path. -/
def legsP : List Pt → List Bx
  | p :: q :: l => legB p q :: legsP (q :: l)
  | _ => []
theorem legsP_snoc (l : List Pt) (p q : Pt) : legsP (l ++ [p, q]) = legsP (l ++ [p]) ++ [legB p q] := by
  induction l with
  | nil => rfl
  | cons a l ih =>
    cases l with
    | nil => rfl
    | cons b l =>
      simp only [List.cons_append, legsP] at ih ⊢
      rw [ih]
theorem legsP_take {l : List Pt} {k : Nat} (h1 : 1 ≤ k) (hk : k < l.length) : legsP (l.take (k + 1)) = legsP (l.take k) ++ [legB (l[k - 1]'(by omega)) l[k]] := by
  obtain ⟨j, rfl⟩ : ∃ j, k = j + 1 := ⟨k - 1, by omega⟩
  rw [List.take_succ_eq_append_getElem hk, List.take_succ_eq_append_getElem (i := j) (by omega), List.append_assoc]
  simp only [List.cons_append, List.nil_append, Nat.add_sub_cancel]
  exact legsP_snoc _ _ _
theorem legsP_len (l : List Pt) : (legsP l).length = l.length - 1 := by
  induction l with
  | nil => rfl
  | cons a l ih =>
    cases l with
    | nil => rfl
    | cons b l => simp only [legsP, List.length_cons] at ih ⊢; omega
theorem ptB_valid {p : Pt} (h : NearP p 1048576) : validB (ptB p) = true := by
  obtain ⟨h1, h2, h3⟩ := h
  rw [valid_iff]; unfold ptB; simp only; omega
theorem hull_two {p q : Pt} (hp : NearP p 1048576) (hq : NearP q 1048576) : hullR [ptB p, ptB q] = (legB p q, 0) := by
  unfold hullR
  simp only [List.all_cons, List.all_nil, ptB_valid hp, ptB_valid hq, Bool.and_true, if_true]
  simp [hullX, joinX, ptB, legB]
def legsI (l : List Br) (rs : List Rn) (i : Int) : List Bx := legsP (pathI l rs i)

theorem own_bxs {W : World} {M : Nat} {e : TypeId} {v : Value} {n : Nat} {l : List Bx} {b : Bx} (h : W.ownsRow M e 6 v (n + 1) (boxCells l ++ boxCells [b])) (hn : n = l.length) : W.ownsRow M e 6 v (l ++ [b]).length (boxCells (l ++ [b])) := by
  subst hn
  rw [boxCells_append, List.length_append]; exact h

theorem ext_grown2 {w A B : World} {row : Option Nat} (h : Below w.heap.size w A) (hg : A.grownBy B row) (hr : ∀ j, row = some j → w.heap.size ≤ j) : ∃ y, B = ext w y := ext_of (h.grown hg h.size hr)

set_option maxRecDepth 100000 in
set_option maxHeartbeats 2000000 in
theorem points_c (l : List Pt) (v : Value) (hlen : l.length ≤ 1000) (w : World) (hl : Pts w v l) :
    Calls Try.prog 56 #[v] w (fun e W => ∃ v', e = .returned v' ∧ W.ownsRow w.heap.size 52 6 v' (l.map ptB).length (boxCells (l.map ptB)) ∧ ∃ x, W = ext w x) := by
  obtain ⟨a, cap, rfl, h2, h3, h4⟩ := hl.shape
  have H4 := Lib.hid h4
  clear hl h4
  go_enter Try.func56, Try.ntmps56
  go_wp2_with fail
  go_loopw [3, 8] (fun v i wr => ∃ k : Nat, k ≤ l.length ∧ i = .int .i64 k ∧ (∃ x, wr = ext w x) ∧ wr.ownsRow w.heap.size 52 6 v k (boxCells ((l.take k).map ptB))) (fun _ i _ => l.length - (intOf i).toNat)
  case atStart => exact ⟨0, by omega, rfl, ext_of (Below.refl _ _), World.ownsRow_nil _ _ _ _⟩
  case round =>
    obtain ⟨k, hk, rfl, ⟨x, rfl⟩, hown⟩ := hrel
    have HO := Lib.hid hown
    obtain ⟨av, cv, rfl, hv1, hv2, _⟩ := own_shape hown
    have hv3 : cv ≤ 9223372036854775807 := hv2
    by_cases hlt : k < l.length
    · obtain ⟨b, off, rfl, c0, c1, c2⟩ := H4.out k hlt
      have c0 := cell_ext_some c0 x
      have c1 := cell_ext_some c1 x
      have c2 := cell_ext_some c2 x
      have q1 : (0 : Int) ≤ (k : Int) := by omega
      have q2 : (k : Int) < (l.length : Int) := by omega
      have htk : (l.take (k + 1)).map ptB = (l.take k).map ptB ++ [ptB l[k]] := by rw [List.take_succ_eq_append_getElem hlt, List.map_append]; rfl
      have hln : k = ((l.take k).map ptB).length := by rw [List.length_map, List.length_take]; omega
      have HLN := Lib.hid hln
      obtain ⟨p, hp⟩ : ∃ p, l[k] = p := ⟨_, rfl⟩
      rw [hp] at c0 c1 c2 htk
      have HTK := Lib.hid htk
      clear hown hp htk hln
      go_wp2_with (at_builtin; refine app_own_b rfl _ _ 48 rfl 52 (.agg #[.int .i64 0, .int .i64 0, .int .i64 0, .int .i64 0, .int .i64 0, .int .i64 0]) 6 48 Try.underlying48 info_box' rfl (by decide) (w.heap.size) (.slice av k cv) (k) (boxCells ((l.take k).map ptB)) _ rfl ((HO.out.alloc _).alloc _) _ 1 1 (boxCells [ptB p]) rfl rfl (cells_new ?_ _ _ _ rfl) (boxCells_one _) (by omega) (by decide) ?_ ?_; (first | rfl | simp [size_ext]); (simp only [World.size_alloc, size_ext]; omega); intro v' w1 hown' hgrow; have HO2 := Lib.hid hown'; obtain ⟨a', c', rfl, _, hc2, -⟩ := own_shape hown'; have hc3 : c' ≤ 9223372036854775807 := hc2; have HGR := Lib.hid hgrow; clear hown' hgrow hc2)
      go_roundw
      case rel =>
        refine ⟨k + 1, by omega, by go_num, ?_, ?_⟩
        · exact ext_grown2 (grow_alloc _ (grow_alloc _ (below_ext w x))) HGR.out (fun j e => (HO.out.lt j e).1)
        · rw [HTK.out]
          have := own_bxs HO2.out HLN.out
          rw [List.length_append, ← HLN.out] at this
          exact this
      case measure => simp [intOf]; omega
    · obtain rfl : k = l.length := by omega
      clear hown
      go_wp2
      go_ret
      exact ⟨_, rfl, by have := HO.out; rw [List.take_length] at this; rw [List.length_map]; exact this, ext_of (by (repeat (first | exact grow_refl _ | refine grow_ext _ ?_ | refine grow_alloc _ ?_ | refine grow_drew ?_)))⟩

end Go.Proofs.Ytofjopdcbmaijaa

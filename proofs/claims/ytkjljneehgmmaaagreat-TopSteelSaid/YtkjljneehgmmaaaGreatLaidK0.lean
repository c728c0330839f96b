/- LaidB0, LaidB, LaidC0, PlainN in one text. -/
import Derived.Test.YtkjljneehgmmaaaGreatAaK1
import Derived.Test.YtkjljneehgmmaaaGreatNameK
import Derived.Test.YtkjljneehgmmaaaGreatExtK
namespace Go.Proofs.YtkjljneehgmmaaaGreat
open Go.RowKit
set_option maxRecDepth 20000
set_option maxHeartbeats 4000000

def legsC (c : Int) : List (Nat × Int) :=
 if c = 0 then [(0, 120)] else
 if c = 11 then [(0, 120), (1, 121)] else
 if c = 21 then [(0, 89), (1, 120), (2, 121)] else
 if c = 26 then [(0, 120), (1, 121), (2, 120)] else
 if c = 31 then [(0, 120), (1, 121), (2, 122)] else
 if c = 41 then [(0, 120), (1, 121), (2, 120), (3, 89), (4, 120)] else
 if c = 51 then [(2, 89), (0, 120), (1, 121), (0, 88), (1, 89), (2, 120)] else
 if c = 98 then [(0, 122), (1, 89), (2, 120), (1, 121), (0, 122)] else
 []
theorem legs_0 : legsC 0 = [(0, 120)] := rfl
theorem legs_11 : legsC 11 = [(0, 120), (1, 121)] := rfl
theorem legs_21 : legsC 21 = [(0, 89), (1, 120), (2, 121)] := rfl
theorem legs_26 : legsC 26 = [(0, 120), (1, 121), (2, 120)] := rfl
theorem legs_31 : legsC 31 = [(0, 120), (1, 121), (2, 122)] := rfl
theorem legs_41 : legsC 41 = [(0, 120), (1, 121), (2, 120), (3, 89), (4, 120)] := rfl
theorem legs_51 : legsC 51 = [(2, 89), (0, 120), (1, 121), (0, 88), (1, 89), (2, 120)] := rfl
theorem legs_98 : legsC 98 = [(0, 122), (1, 89), (2, 120), (1, 121), (0, 122)] := rfl
theorem legs_cases (c : Int) : c = 0 ∨ c = 11 ∨ c = 21 ∨ c = 26 ∨ c = 31 ∨ c = 41 ∨ c = 51 ∨ c = 98 ∨ (((c == 0) = false ∧ (c == 11) = false ∧ (c == 21) = false ∧ (c == 26) = false ∧ (c == 31) = false ∧ (c == 41) = false ∧ (c == 51) = false ∧ (c == 98) = false) ∧ legsC c = []) := by
 by_cases h0 : c = 0
 ·simp [h0]
 by_cases h11 : c = 11
 ·simp [h11]
 by_cases h21 : c = 21
 ·simp [h21]
 by_cases h26 : c = 26
 ·simp [h26]
 by_cases h31 : c = 31
 ·simp [h31]
 by_cases h41 : c = 41
 ·simp [h41]
 by_cases h51 : c = 51
 ·simp [h51]
 by_cases h98 : c = 98
 ·simp [h98]
 refine .inr (.inr (.inr (.inr (.inr (.inr (.inr (.inr (⟨⟨by simpa using h0, by simpa using h11, by simpa using h21, by simpa using h26, by simpa using h31, by simpa using h41, by simpa using h51, by simpa using h98⟩, ?_⟩))))))))
 unfold legsC
 rw [if_neg h0, if_neg h11, if_neg h21, if_neg h26, if_neg h31, if_neg h41, if_neg h51, if_neg h98]
def LegsAt (w : World) (v : Value) (l : List (Nat × Int)) : Prop :=
 ∃ a cap, v = .slice a l.length cap ∧ l.length ≤ cap ∧ cap ≤ 9223372036854775807 ∧ ∀ i (h : i < l.length), ∃ b off, a = some ⟨b, off, none⟩ ∧ w.cell? ⟨b, off + i * 2, none⟩ = some (.int .i64 (l[i].1 : Int)) ∧ w.cell? ⟨b, off + i * 2 + 1, none⟩ = some (.int .u8 l[i].2)
theorem LegsAt.ext {w : World} {v : Value} {l : List (Nat × Int)} (h : LegsAt w v l) (y : World) : LegsAt (ext w y) v l := by
 obtain ⟨a, cap, h1, h2, h3, h4⟩ := h
 exact ⟨a, cap, h1, h2, h3, fun i hi => let ⟨b, off, e, hb, hc⟩ := h4 i hi; ⟨b, off, e, cell_ext_some hb y, cell_ext_some hc y⟩⟩
theorem LegsAt.below {w w' : World} {v : Value} {l : List (Nat × Int)} (h : LegsAt w v l) (hb : Below w.heap.size w w') : LegsAt w' v l := by
 obtain ⟨x, rfl⟩ := ext_of hb
 exact h.ext x
theorem LegsAt.shape {w : World} {v : Value} {l : List (Nat × Int)} (h : LegsAt w v l) : ∃ a cap, v = .slice a l.length cap ∧ l.length ≤ cap ∧ cap ≤ 9223372036854775807 ∧ ∀ i (h : i < l.length), ∃ b off, a = some ⟨b, off, none⟩ ∧ w.cell? ⟨b, off + i * 2, none⟩ = some (.int .i64 (l[i].1 : Int)) ∧ w.cell? ⟨b, off + i * 2 + 1, none⟩ = some (.int .u8 l[i].2) := h
def RetLegs (w : World) (l : List (Nat × Int)) (e : Ending) (w' : World) : Prop := ∃ v, e = .returned v ∧ LegsAt w' v l ∧ ∃ x, w' = ext w x

theorem legs_c (c : Int) (w : World) : Calls Tryz.prog 196 #[.int .i64 c] w (RetLegs w (legsC c)) := by
 rcases legs_cases c with rfl | rfl | rfl | rfl | rfl | rfl | rfl | rfl | ⟨⟨d0, d11, d21, d26, d31, d41, d51, d98⟩, he⟩
 ·go_enter Tryz.func196, Tryz.ntmps196
  go_wp2
  refine bodyPost_ret (v := .slice (some ⟨w.heap.size, 0, none⟩) 1 1) (by simp [results, Tryz.results196, go_sem]) rfl ?_
  refine ⟨_, rfl, ⟨some ⟨w.heap.size, 0, none⟩, 1, rfl, by decide, by decide, ?_⟩, ext_of gro⟩
  rw [legs_0]
  intro i hi
  have hin : i < 1 := hi
  refine ⟨w.heap.size, 0, rfl, ?_⟩
  rcases (show i = 0 by omega) with rfl
  all_goals simp [go_sem]
 ·go_enter Tryz.func196, Tryz.ntmps196
  go_wp2
  refine bodyPost_ret (v := .slice (some ⟨w.heap.size, 0, none⟩) 2 2) (by simp [results, Tryz.results196, go_sem]) rfl ?_
  refine ⟨_, rfl, ⟨some ⟨w.heap.size, 0, none⟩, 2, rfl, by decide, by decide, ?_⟩, ext_of gro⟩
  rw [legs_11]
  intro i hi
  have hin : i < 2 := hi
  refine ⟨w.heap.size, 0, rfl, ?_⟩
  rcases (show i = 0 ∨ i = 1 by omega) with rfl | rfl
  all_goals simp [go_sem]
 ·go_enter Tryz.func196, Tryz.ntmps196
  go_wp2
  refine bodyPost_ret (v := .slice (some ⟨w.heap.size, 0, none⟩) 3 3) (by simp [results, Tryz.results196, go_sem]) rfl ?_
  refine ⟨_, rfl, ⟨some ⟨w.heap.size, 0, none⟩, 3, rfl, by decide, by decide, ?_⟩, ext_of gro⟩
  rw [legs_21]
  intro i hi
  have hin : i < 3 := hi
  refine ⟨w.heap.size, 0, rfl, ?_⟩
  rcases (show i = 0 ∨ i = 1 ∨ i = 2 by omega) with rfl | rfl | rfl
  all_goals simp [go_sem]
 ·go_enter Tryz.func196, Tryz.ntmps196
  go_wp2
  refine bodyPost_ret (v := .slice (some ⟨w.heap.size, 0, none⟩) 3 3) (by simp [results, Tryz.results196, go_sem]) rfl ?_
  refine ⟨_, rfl, ⟨some ⟨w.heap.size, 0, none⟩, 3, rfl, by decide, by decide, ?_⟩, ext_of gro⟩
  rw [legs_26]
  intro i hi
  have hin : i < 3 := hi
  refine ⟨w.heap.size, 0, rfl, ?_⟩
  rcases (show i = 0 ∨ i = 1 ∨ i = 2 by omega) with rfl | rfl | rfl
  all_goals simp [go_sem]
 ·go_enter Tryz.func196, Tryz.ntmps196
  go_wp2
  refine bodyPost_ret (v := .slice (some ⟨w.heap.size, 0, none⟩) 3 3) (by simp [results, Tryz.results196, go_sem]) rfl ?_
  refine ⟨_, rfl, ⟨some ⟨w.heap.size, 0, none⟩, 3, rfl, by decide, by decide, ?_⟩, ext_of gro⟩
  rw [legs_31]
  intro i hi
  have hin : i < 3 := hi
  refine ⟨w.heap.size, 0, rfl, ?_⟩
  rcases (show i = 0 ∨ i = 1 ∨ i = 2 by omega) with rfl | rfl | rfl
  all_goals simp [go_sem]
 ·go_enter Tryz.func196, Tryz.ntmps196
  go_wp2
  refine bodyPost_ret (v := .slice (some ⟨w.heap.size, 0, none⟩) 5 5) (by simp [results, Tryz.results196, go_sem]) rfl ?_
  refine ⟨_, rfl, ⟨some ⟨w.heap.size, 0, none⟩, 5, rfl, by decide, by decide, ?_⟩, ext_of gro⟩
  rw [legs_41]
  intro i hi
  have hin : i < 5 := hi
  refine ⟨w.heap.size, 0, rfl, ?_⟩
  rcases (show i = 0 ∨ i = 1 ∨ i = 2 ∨ i = 3 ∨ i = 4 by omega) with rfl | rfl | rfl | rfl | rfl
  all_goals simp [go_sem]
 ·go_enter Tryz.func196, Tryz.ntmps196
  go_wp2
  refine bodyPost_ret (v := .slice (some ⟨w.heap.size, 0, none⟩) 6 6) (by simp [results, Tryz.results196, go_sem]) rfl ?_
  refine ⟨_, rfl, ⟨some ⟨w.heap.size, 0, none⟩, 6, rfl, by decide, by decide, ?_⟩, ext_of gro⟩
  rw [legs_51]
  intro i hi
  have hin : i < 6 := hi
  refine ⟨w.heap.size, 0, rfl, ?_⟩
  rcases (show i = 0 ∨ i = 1 ∨ i = 2 ∨ i = 3 ∨ i = 4 ∨ i = 5 by omega) with rfl | rfl | rfl | rfl | rfl | rfl
  all_goals simp [go_sem]
 ·go_enter Tryz.func196, Tryz.ntmps196
  go_wp2
  refine bodyPost_ret (v := .slice (some ⟨w.heap.size, 0, none⟩) 5 5) (by simp [results, Tryz.results196, go_sem]) rfl ?_
  refine ⟨_, rfl, ⟨some ⟨w.heap.size, 0, none⟩, 5, rfl, by decide, by decide, ?_⟩, ext_of gro⟩
  rw [legs_98]
  intro i hi
  have hin : i < 5 := hi
  refine ⟨w.heap.size, 0, rfl, ?_⟩
  rcases (show i = 0 ∨ i = 1 ∨ i = 2 ∨ i = 3 ∨ i = 4 by omega) with rfl | rfl | rfl | rfl | rfl
  all_goals simp [go_sem]
 ·go_enter Tryz.func196, Tryz.ntmps196
  go_wp2
  refine bodyPost_ret (v := .slice none 0 0) (by simp [results, Tryz.results196, go_sem]) rfl ?_
  rw [he]
  exact ⟨_, rfl, ⟨none, 0, rfl, by decide, by decide, fun i hi => absurd hi (Nat.not_lt_zero _)⟩, ext_of gro⟩

def legCells (l : List (Nat × Int)) : List Value := l.flatMap fun g => [.int .i64 (g.1 : Int), .int .u8 g.2]
theorem legCells_get (l : List (Nat × Int)) (i : Nat) (h : i < l.length) : (legCells l)[i * 2]? = some (.int .i64 (l[i].1 : Int)) ∧ (legCells l)[i * 2 + 1]? = some (.int .u8 l[i].2) := by
 induction l generalizing i with
 | nil => simp at h
 | cons a l ih =>
   cases i with
   | zero => simp [legCells]
   | succ i =>
     have := ih i (by simpa using h)
     have hc : ∀ k, (legCells (a :: l))[(i + 1) * 2 + k]? = (legCells l)[i * 2 + k]? := fun k => by
      rw [show (i + 1) * 2 + k = (i * 2 + k) + 1 + 1 by omega]
      simp only [legCells, List.flatMap_cons, List.cons_append, List.nil_append, List.getElem?_cons_succ]
     have h0 := hc 0
     rw [Nat.add_zero, Nat.add_zero] at h0
     rw [h0, hc]
     exact this
theorem legs_b (c : Int) (hne : legsC c ≠ []) (w : World) : Calls Tryz.prog 196 #[.int .i64 c] w (fun e W => ∃ g, e = .returned (.slice (some ⟨g, 0, none⟩) (legsC c).length (legsC c).length) ∧ Blk W g (legCells (legsC c)).toArray 273 ∧ w.heap.size ≤ g ∧ ∃ x, W = ext w x) := by
 rcases legs_cases c with rfl | rfl | rfl | rfl | rfl | rfl | rfl | rfl | ⟨_, he⟩
 ·clear hne
  go_enter Tryz.func196, Tryz.ntmps196
  go_wp2
  refine bodyPost_ret (v := .slice (some ⟨w.heap.size, 0, none⟩) 1 1) (by simp [results, Tryz.results196, go_sem]) rfl ?_
  exact ⟨w.heap.size, rfl, Blk.new w _ _, Nat.le_refl _, ext_of gro⟩
 ·clear hne
  go_enter Tryz.func196, Tryz.ntmps196
  go_wp2
  refine bodyPost_ret (v := .slice (some ⟨w.heap.size, 0, none⟩) 2 2) (by simp [results, Tryz.results196, go_sem]) rfl ?_
  exact ⟨w.heap.size, rfl, Blk.new w _ _, Nat.le_refl _, ext_of gro⟩
 ·clear hne
  go_enter Tryz.func196, Tryz.ntmps196
  go_wp2
  refine bodyPost_ret (v := .slice (some ⟨w.heap.size, 0, none⟩) 3 3) (by simp [results, Tryz.results196, go_sem]) rfl ?_
  exact ⟨w.heap.size, rfl, Blk.new w _ _, Nat.le_refl _, ext_of gro⟩
 ·clear hne
  go_enter Tryz.func196, Tryz.ntmps196
  go_wp2
  refine bodyPost_ret (v := .slice (some ⟨w.heap.size, 0, none⟩) 3 3) (by simp [results, Tryz.results196, go_sem]) rfl ?_
  exact ⟨w.heap.size, rfl, Blk.new w _ _, Nat.le_refl _, ext_of gro⟩
 ·clear hne
  go_enter Tryz.func196, Tryz.ntmps196
  go_wp2
  refine bodyPost_ret (v := .slice (some ⟨w.heap.size, 0, none⟩) 3 3) (by simp [results, Tryz.results196, go_sem]) rfl ?_
  exact ⟨w.heap.size, rfl, Blk.new w _ _, Nat.le_refl _, ext_of gro⟩
 ·clear hne
  go_enter Tryz.func196, Tryz.ntmps196
  go_wp2
  refine bodyPost_ret (v := .slice (some ⟨w.heap.size, 0, none⟩) 5 5) (by simp [results, Tryz.results196, go_sem]) rfl ?_
  exact ⟨w.heap.size, rfl, Blk.new w _ _, Nat.le_refl _, ext_of gro⟩
 ·clear hne
  go_enter Tryz.func196, Tryz.ntmps196
  go_wp2
  refine bodyPost_ret (v := .slice (some ⟨w.heap.size, 0, none⟩) 6 6) (by simp [results, Tryz.results196, go_sem]) rfl ?_
  exact ⟨w.heap.size, rfl, Blk.new w _ _, Nat.le_refl _, ext_of gro⟩
 ·clear hne
  go_enter Tryz.func196, Tryz.ntmps196
  go_wp2
  refine bodyPost_ret (v := .slice (some ⟨w.heap.size, 0, none⟩) 5 5) (by simp [results, Tryz.results196, go_sem]) rfl ?_
  exact ⟨w.heap.size, rfl, Blk.new w _ _, Nat.le_refl _, ext_of gro⟩
 ·exact absurd he hne


set_option maxHeartbeats 2000000
set_option maxRecDepth 100000

def maxD (l : List (Nat × Int)) : Int := l.foldl (fun m x => max m (x.1 : Int)) (-1)
theorem maxD_take {l : List (Nat × Int)} {k : Nat} (h : k < l.length) : maxD (l.take (k + 1)) = max (maxD (l.take k)) (l[k].1 : Int) := by
 unfold maxD
 rw [List.take_succ_eq_append_getElem h, List.foldl_append]; rfl
def dimsR (c : Int) : Int × Int := if maxD (legsC c) < 0 then (0, 11) else (maxD (legsC c) + 1, 0)

theorem dims_v (c rm re : Int) (h : dimsR c = (rm, re)) (w : World) : Calls Tryz.prog 233 #[.int .i64 c] w (Ret w (.tuple #[.int .i64 rm, .int .i64 re])) := by
 have HL := hd0 (fun w => legs_c c w)
 have hlen : (legsC c).length ≤ 6 := by rcases legs_cases c with rfl | rfl | rfl | rfl | rfl | rfl | rfl | rfl | ⟨_, he⟩ <;> first | decide | (rw [he]; decide)
 have hsmall : ∀ x ∈ legsC c, x.1 ≤ 4 := by rcases legs_cases c with rfl | rfl | rfl | rfl | rfl | rfl | rfl | rfl | ⟨_, he⟩ <;> first | decide | (rw [he]; intro x hx; cases hx)
 unfold dimsR at h
 generalize legsC c = l at *
 have HSM := hd0 hsmall
 have HR := hd0 h
 clear hsmall h
 go_enter Tryz.func233, Tryz.ntmps233
 go_wp2_with fail
 go_at_call 196; refine Calls.mono (HL.out _) ?_; rintro e w' ⟨v1, rfl, hA, x1, rfl⟩
 obtain ⟨a, cap, rfl, h2, h3, h4⟩ := hA.shape
 have H4 := hd0 h4
 clear h4 hA
 go_wp2_with fail
 go_loopw [10, 4] (fun i m wr => ∃ k : Nat, k ≤ l.length ∧ i = .int .i64 k ∧ m = .int .i64 (maxD (l.take k)) ∧ (-1 ≤ maxD (l.take k) ∧ maxD (l.take k) ≤ 4) ∧ ∃ x, wr = ext (ext w x1) x) (fun i _ _ => l.length - (intOf i).toNat)
 case atStart => exact ⟨0, by omega, rfl, rfl, by rw [List.take_zero]; decide, ext_of (Below.refl _ _)⟩
 case round =>
  obtain ⟨k, hk, rfl, rfl, hm, x, rfl⟩ := hrel
  by_cases hlt : k < l.length
  ·obtain ⟨b, off, rfl, c0, c1⟩ := H4.out k hlt
   have c0 := cell_ext_some c0 x
   have c1 := cell_ext_some c1 x
   have q1 : (0 : Int) ≤ (k : Int) := by omega
   have q2 : (k : Int) < (l.length : Int) := by omega
   have hmt := maxD_take hlt
   have hsm := HSM.out _ (List.getElem_mem hlt)
   generalize l[k] = p at *
   obtain ⟨M', hM'⟩ : ∃ M', maxD (l.take (k + 1)) = M' := ⟨_, rfl⟩
   rw [hM'] at hmt
   generalize maxD (l.take k) = M at *
   have HM := hd0 hM'
   have HT := hd0 hmt
   clear hM' hmt
   go_wp2
   all_goals
    go_roundw
    case rel => exact ⟨k + 1, by omega, by go_num, by rw [HM.out, HT.out]; try (congr 1; omega), by rw [HM.out, HT.out]; omega, ext_of gro⟩
    case measure => simp [intOf]; omega
  ·obtain rfl : k = l.length := by omega
   rw [List.take_length] at hm ⊢
   have hr := HR.out
   clear HR
   generalize maxD l = M at *
   by_cases hneg : M < 0
   ·rw [if_pos hneg] at hr
    cases hr
    go_wp2
    go_ret2
    exact Ret.of gro
   ·rw [if_neg hneg] at hr
    cases hr
    go_wp2
    go_ret2
    exact Ret.of gro

theorem dims_c (c : Int) (w : World) : Calls Tryz.prog 233 #[.int .i64 c] w (Ret w (.tuple #[.int .i64 (dimsR c).1, .int .i64 (dimsR c).2])) := dims_v c _ _ rfl w
def restB : Int → List Int → Bool
 | _, [] => true
 | r, n :: l => decide (1 ≤ n) && decide (n ≤ r) && restB (r - n) l
def shapeB (b : Br) : Bool := decide ((dimsR b.code).2 = 0) && (nameB b.mark && (sizeB b.size && (decide (1 ≤ b.count) && (decide (b.count ≤ 1000) && (decide ((b.dims.length : Int) = (dimsR b.code).1) && restB 262144 b.dims)))))

theorem shapeValid_ok (b : Br) (r : Bool) (h1 : (dimsR b.code).2 = 0) (h2 : nameB b.mark = true) (h3 : sizeB b.size = true) (h4 : 1 ≤ b.count) (h5 : b.count ≤ 1000) (h6 : (b.dims.length : Int) = (dimsR b.code).1) (hr : restB 262144 b.dims = r) (w : World) (hb : BrOk w b) :
  Calls Tryz.prog 189 #[(.agg #[.string b.mark, .int .i64 b.size, .int .i64 b.count, .int .i64 b.code, b.dv])] w (Ret w (.bool r)) := by
 have HD := hd0 (fun w => dims_c b.code w)
 rw [h1, ← h6] at HD
 have HN := hd0 (fun w => isName_v b.mark true h2 hb.mark w)
 have HS := hd0 (fun w => size_v b.size true h3 w)
 obtain ⟨a, cap, ev, k2, k3, k4⟩ := hb.dims
 have K4 := hd0 k4
 have HR := hd0 hr
 clear h1 h2 h3 h6 hb k4 hr
 obtain ⟨mark, size, count, code, dims, dv⟩ := b
 simp only at *
 subst ev
 have d1 : ((dims.length : Int) != (dims.length : Int)) = false := by simp
 go_enter Tryz.func189, Tryz.ntmps189
 go_wp2_with fail
 go_at_call 233; refine (HD.out _).mono ?_; rintro e w' ⟨rfl, x1, rfl⟩
 go_wp2_with fail
 go_at_call 55; refine (HN.out _).mono ?_; rintro e w' ⟨rfl, x2, rfl⟩
 go_wp2_with fail
 go_at_call 234; refine (HS.out _).mono ?_; rintro e w' ⟨rfl, x3, rfl⟩
 go_wp2_with fail
 refine world_mask (fun W => ∃ z, W = ext w z) _ (ext_of gro) ?_
 rintro W1 ⟨z, rfl⟩
 go_loopw [48, 5] (fun i m wr => ∃ (k : Nat) (R : Int), k ≤ dims.length ∧ i = .int .i64 k ∧ m = .int .i64 R ∧ (0 ≤ R ∧ R ≤ 262144) ∧ restB 262144 dims = restB R (dims.drop k) ∧ ∃ x, wr = ext w x) (fun i _ _ => dims.length - (intOf i).toNat)
 case atStart => exact ⟨0, 262144, by omega, rfl, rfl, by decide, rfl, _, rfl⟩
 case round =>
  obtain ⟨k, R, hk, rfl, rfl, hR, hdr, x, rfl⟩ := hrel
  by_cases hlt : k < dims.length
  ·obtain ⟨bb, off, rfl, c0⟩ := K4.out k hlt
   have c0 := cell_ext_some c0 x
   have q1 : (0 : Int) ≤ (k : Int) := by omega
   have q2 : (k : Int) < (dims.length : Int) := by omega
   rw [List.drop_eq_getElem_cons hlt, restB] at hdr
   have HDR := hd0 hdr
   obtain ⟨n, hn⟩ : ∃ n, dims[k] = n := ⟨_, rfl⟩
   rw [hn] at c0 HDR
   clear hdr hn
   by_cases g1 : 1 ≤ n
   ·by_cases g2 : n ≤ R
    ·have HX := hd0 (show restB 262144 dims = restB (R - n) (dims.drop (k + 1)) by rw [HDR.out, decide_eq_true g1, decide_eq_true g2, Bool.true_and, Bool.true_and])
     go_wp2
     go_roundw
     case rel => exact ⟨k + 1, R - n, by omega, by go_num, rfl, by omega, HX.out, ext_of gro⟩
     case measure => simp [intOf]; omega
    ·obtain rfl : false = r := by rw [← HR.out, HDR.out, decide_eq_false g2, Bool.and_false, Bool.false_and]
     go_wp2
     go_ret
     exact Ret.of gro
   ·obtain rfl : false = r := by rw [← HR.out, HDR.out, decide_eq_false g1, Bool.false_and, Bool.false_and]
    go_wp2
    go_ret
    exact Ret.of gro
  ·obtain rfl : k = dims.length := by omega
   obtain rfl : true = r := by rw [← HR.out, hdr, List.drop_length]; rfl
   clear hdr
   go_wp2
   go_ret
   exact Ret.of gro

theorem shapeValid_v (b : Br) (r : Bool) (h : shapeB b = r) (w : World) (hb : BrOk w b) : Calls Tryz.prog 189 #[(.agg #[.string b.mark, .int .i64 b.size, .int .i64 b.count, .int .i64 b.code, b.dv])] w (Ret w (.bool r)) := by
 have HD := hd0 (fun w => dims_c b.code w)
 have HN := hd0 (fun r h w => isName_v b.mark r h hb.mark w)
 have HS := hd0 (fun r h w => size_v b.size r h w)
 unfold shapeB at h
 by_cases h1 : (dimsR b.code).2 = 0
 rotate_left
 ·rw [decide_eq_false h1, Bool.false_and] at h
  subst h
  have d1 : ((dimsR b.code).2 != 0) = true := by simpa using h1
  generalize (dimsR b.code).2 = E at *
  generalize (dimsR b.code).1 = M at *
  clear h1 hb
  go_enter Tryz.func189, Tryz.ntmps189
  go_wp2_with fail
  go_at_call 233; refine (HD.out _).mono ?_; rintro e w' ⟨rfl, x1, rfl⟩
  go_wp2
  go_ret
  exact Ret.of gro
 rw [decide_eq_true h1, Bool.true_and] at h
 cases h2 : nameB b.mark
 ·rw [h2, Bool.false_and] at h
  subst h
  rw [h1] at HD
  have H2 := hd0 h2
  generalize (dimsR b.code).1 = M at *
  clear h1 h2 hb
  go_enter Tryz.func189, Tryz.ntmps189
  go_wp2_with fail
  go_at_call 233; refine (HD.out _).mono ?_; rintro e w' ⟨rfl, x1, rfl⟩
  go_wp2_with fail
  go_at_call 55; refine (HN.out _ H2.out _).mono ?_; rintro e w' ⟨rfl, x2, rfl⟩
  go_wp2
  go_ret
  exact Ret.of gro
 rw [h2, Bool.true_and] at h
 cases h3 : sizeB b.size
 ·rw [h3, Bool.false_and] at h
  subst h
  rw [h1] at HD
  have H2 := hd0 h2
  have H3 := hd0 h3
  generalize (dimsR b.code).1 = M at *
  clear h1 h2 h3 hb
  go_enter Tryz.func189, Tryz.ntmps189
  go_wp2_with fail
  go_at_call 233; refine (HD.out _).mono ?_; rintro e w' ⟨rfl, x1, rfl⟩
  go_wp2_with fail
  go_at_call 55; refine (HN.out _ H2.out _).mono ?_; rintro e w' ⟨rfl, x2, rfl⟩
  go_wp2_with fail
  go_at_call 234; refine (HS.out _ H3.out _).mono ?_; rintro e w' ⟨rfl, x3, rfl⟩
  go_wp2
  go_ret
  exact Ret.of gro
 rw [h3, Bool.true_and] at h
 by_cases h45 : 1 ≤ b.count ∧ b.count ≤ 1000 ∧ (b.dims.length : Int) = (dimsR b.code).1
 ·obtain ⟨h4, h5, h6⟩ := h45
  rw [decide_eq_true h4, decide_eq_true h5, decide_eq_true h6, Bool.true_and, Bool.true_and, Bool.true_and] at h
  exact shapeValid_ok b r h1 h2 h3 h4 h5 h6 h w hb
 ·obtain rfl : false = r := by
   rw [← h]
   symm
   rw [Bool.eq_false_iff]
   intro hh
   simp only [Bool.and_eq_true, decide_eq_true_iff] at hh
   exact h45 ⟨hh.1, hh.2.1, hh.2.2.1⟩
  rw [h1] at HD
  have H2 := hd0 h2
  have H3 := hd0 h3
  obtain ⟨a, cap, ev, _, _, _⟩ := hb.dims
  clear h h1 h2 h3 hb
  generalize (dimsR b.code).1 = M at *
  obtain ⟨mark, size, count, code, dims, dv⟩ := b
  simp only at *
  subst ev
  by_cases h4 : 1 ≤ count
  ·by_cases h5 : count ≤ 1000
   ·have h6 : ((dims.length : Int) != M) = true := by simpa using fun e => h45 ⟨h4, h5, e⟩
    clear h45
    go_enter Tryz.func189, Tryz.ntmps189
    go_wp2_with fail
    go_at_call 233; refine (HD.out _).mono ?_; rintro e w' ⟨rfl, x1, rfl⟩
    go_wp2_with fail
    go_at_call 55; refine (HN.out _ H2.out _).mono ?_; rintro e w' ⟨rfl, x2, rfl⟩
    go_wp2_with fail
    go_at_call 234; refine (HS.out _ H3.out _).mono ?_; rintro e w' ⟨rfl, x3, rfl⟩
    go_wp2
    go_ret
    exact Ret.of gro
   ·clear h45
    go_enter Tryz.func189, Tryz.ntmps189
    go_wp2_with fail
    go_at_call 233; refine (HD.out _).mono ?_; rintro e w' ⟨rfl, x1, rfl⟩
    go_wp2_with fail
    go_at_call 55; refine (HN.out _ H2.out _).mono ?_; rintro e w' ⟨rfl, x2, rfl⟩
    go_wp2_with fail
    go_at_call 234; refine (HS.out _ H3.out _).mono ?_; rintro e w' ⟨rfl, x3, rfl⟩
    go_wp2
    go_ret
    exact Ret.of gro
  ·clear h45
   go_enter Tryz.func189, Tryz.ntmps189
   go_wp2_with fail
   go_at_call 233; refine (HD.out _).mono ?_; rintro e w' ⟨rfl, x1, rfl⟩
   go_wp2_with fail
   go_at_call 55; refine (HN.out _ H2.out _).mono ?_; rintro e w' ⟨rfl, x2, rfl⟩
   go_wp2_with fail
   go_at_call 234; refine (HS.out _ H3.out _).mono ?_; rintro e w' ⟨rfl, x3, rfl⟩
   go_wp2
   go_ret
   exact Ret.of gro


def addP (dims : List Int) (p : Pt) (g : Nat × Int) : Pt :=
 if g.2 = 120 then ⟨p.x + dims.getD g.1 0, p.y, p.z⟩ else if g.2 = 88 then ⟨p.x - dims.getD g.1 0, p.y, p.z⟩ else if g.2 = 121 then ⟨p.x, p.y + dims.getD g.1 0, p.z⟩ else if g.2 = 89 then ⟨p.x, p.y - dims.getD g.1 0, p.z⟩ else ⟨p.x, p.y, p.z + dims.getD g.1 0⟩
def atK (dims : List Int) (legs : List (Nat × Int)) (k : Nat) : Pt := (legs.take k).foldl (addP dims) ⟨0, 0, 0⟩
theorem atK_succ (dims : List Int) {legs : List (Nat × Int)} {k : Nat} (h : k < legs.length) : atK dims legs (k + 1) = addP dims (atK dims legs k) legs[k] := by
 unfold atK
 rw [List.take_succ_eq_append_getElem h, List.foldl_append]; rfl
def ptsK (dims : List Int) (legs : List (Nat × Int)) (k : Nat) : List Pt := (List.range (k + 1)).map (atK dims legs)
theorem ptsK_succ (dims : List Int) (legs : List (Nat × Int)) (k : Nat) : ptsK dims legs (k + 1) = ptsK dims legs k ++ [atK dims legs (k + 1)] := by
 unfold ptsK
 rw [List.range_succ, List.map_append]; rfl
theorem ptsK_length (dims : List Int) (legs : List (Nat × Int)) (k : Nat) : (ptsK dims legs k).length = k + 1 := by simp [ptsK]
def pathL (b : Br) : List Pt := ptsK b.dims (legsC b.code) (legsC b.code).length

theorem restB_mem {r : Int} {l : List Int} (h : restB r l = true) : ∀ n ∈ l, 1 ≤ n ∧ n ≤ r := by
 induction l generalizing r with
 | nil => intro n hn; cases hn
 | cons a l ih =>
   simp only [restB, Bool.and_eq_true, decide_eq_true_iff] at h
   obtain ⟨⟨h1, h2⟩, h3⟩ := h
   intro n hn
   rcases List.mem_cons.1 hn with rfl | hn
   ·exact ⟨h1, h2⟩
   ·have := ih h3 n hn; omega
theorem shape_facts {b : Br} (h : shapeB b = true) : (dimsR b.code).2 = 0 ∧ nameB b.mark = true ∧ sizeB b.size = true ∧ (1 ≤ b.count ∧ b.count ≤ 1000) ∧ (b.dims.length : Int) = (dimsR b.code).1 ∧ restB 262144 b.dims = true := by
 unfold shapeB at h
 simp only [Bool.and_eq_true, decide_eq_true_iff] at h
 obtain ⟨h1, h2, h3, h4, h5, h6, h7⟩ := h
 exact ⟨h1, h2, h3, ⟨h4, h5⟩, h6, h7⟩
theorem maxD_ge (l : List (Nat × Int)) : ∀ x ∈ l, (x.1 : Int) ≤ maxD l := by
 suffices H : ∀ (l : List (Nat × Int)) (m : Int), m ≤ l.foldl (fun m x => max m (x.1 : Int)) m ∧ ∀ x ∈ l, (x.1 : Int) ≤ l.foldl (fun m x => max m (x.1 : Int)) m from (H l (-1)).2
 intro l
 induction l with
 | nil => intro m; exact ⟨Int.le_refl _, fun x hx => by cases hx⟩
 | cons a l ih =>
   intro m
   obtain ⟨i1, i2⟩ := ih (max m (a.1 : Int))
   refine ⟨Int.le_trans (Int.le_max_left _ _) i1, fun x hx => ?_⟩
   rcases List.mem_cons.1 hx with rfl | hx
   ·exact Int.le_trans (Int.le_max_right _ _) i1
   ·exact i2 x hx
theorem legs_dims {b : Br} (h : shapeB b = true) : ∀ x ∈ legsC b.code, x.1 < b.dims.length := by
 obtain ⟨h1, _, _, _, h5, _⟩ := shape_facts h
 intro x hx
 have := maxD_ge _ x hx
 unfold dimsR at h1 h5
 split at h1
 ·exact absurd h1 (by decide)
 ·rename_i hneg
  rw [if_neg hneg] at h5
  simp only at h5
  omega
theorem legs_way (c : Int) : (legsC c).length ≤ 6 ∧ ∀ x ∈ legsC c, x.2 = 120 ∨ x.2 = 88 ∨ x.2 = 121 ∨ x.2 = 89 ∨ x.2 = 122 := by
 rcases legs_cases c with rfl | rfl | rfl | rfl | rfl | rfl | rfl | rfl | ⟨_, he⟩
 all_goals first | decide | (rw [he]; exact ⟨by decide, fun x hx => by cases hx⟩)



def unitP (n : Int) : Pt := if n = 1 then ⟨1, 0, 0⟩ else if n = 2 then ⟨0, 1, 0⟩ else if n = 3 then ⟨0, 0, 1⟩ else if n = -1 then ⟨-1, 0, 0⟩ else if n = -2 then ⟨0, -1, 0⟩ else ⟨0, 0, -1⟩
def crossP (a b : Pt) : Pt := ⟨a.y * b.z - a.z * b.y, a.z * b.x - a.x * b.z, a.x * b.y - a.y * b.x⟩
def imgP (tx ty : Int) (p : Pt) : Pt :=
 ⟨(unitP tx).x * p.x + (unitP ty).x * p.y + (crossP (unitP tx) (unitP ty)).x * p.z, (unitP tx).y * p.x + (unitP ty).y * p.y + (crossP (unitP tx) (unitP ty)).y * p.z, (unitP tx).z * p.x + (unitP ty).z * p.y + (crossP (unitP tx) (unitP ty)).z * p.z⟩
def turnB (tx ty : Int) : Bool := (decide (tx ≠ 0) && (decide (-3 ≤ tx) && decide (tx ≤ 3))) && ((decide (ty ≠ 0) && (decide (-3 ≤ ty) && decide (ty ≤ 3))) && (decide (tx ≠ ty) && decide (tx ≠ -ty)))
theorem turn_iff {tx ty : Int} : turnB tx ty = true ↔ (tx ≠ 0 ∧ -3 ≤ tx ∧ tx ≤ 3) ∧ (ty ≠ 0 ∧ -3 ≤ ty ∧ ty ≤ 3) ∧ tx ≠ ty ∧ tx ≠ -ty := by
 unfold turnB; simp only [Bool.and_eq_true, decide_eq_true_iff]
def NearP (p : Pt) (m : Int) : Prop := (-m ≤ p.x ∧ p.x ≤ m) ∧ (-m ≤ p.y ∧ p.y ≤ m) ∧ -m ≤ p.z ∧ p.z ≤ m
def nearB (p : Pt) (m : Int) : Bool := (decide (-m ≤ p.x) && decide (p.x ≤ m)) && ((decide (-m ≤ p.y) && decide (p.y ≤ m)) && (decide (-m ≤ p.z) && decide (p.z ≤ m)))
theorem near_iff {p : Pt} {m : Int} : nearB p m = true ↔ NearP p m := by
 unfold nearB NearP; simp only [Bool.and_eq_true, decide_eq_true_iff]
theorem img_near {tx ty : Int} (h : turnB tx ty = true) {p : Pt} {m : Int} (hp : NearP p m) : NearP (imgP tx ty p) m := by
 obtain ⟨⟨a1, a2, a3⟩, ⟨b1, b2, b3⟩, c1, c2⟩ := turn_iff.1 h
 unfold NearP at hp ⊢
 have hx : tx = 1 ∨ tx = 2 ∨ tx = 3 ∨ tx = -1 ∨ tx = -2 ∨ tx = -3 := by omega
 have hy : ty = 1 ∨ ty = 2 ∨ ty = 3 ∨ ty = -1 ∨ ty = -2 ∨ ty = -3 := by omega
 rcases hx with rfl | rfl | rfl | rfl | rfl | rfl <;> rcases hy with rfl | rfl | rfl | rfl | rfl | rfl <;> first | omega | (simp [imgP, unitP, crossP]; omega)

theorem restB_cons {r n : Int} {l : List Int} : restB r (n :: l) = true ↔ 1 ≤ n ∧ n ≤ r ∧ restB (r - n) l = true := by
 simp only [restB, Bool.and_eq_true, decide_eq_true_iff, and_assoc]
theorem path_near {b : Br} (h : shapeB b = true) : ∀ p ∈ pathL b, NearP p 1048576 := by
 obtain ⟨h1, _, _, _, h5, h6⟩ := shape_facts h
 obtain ⟨mark, size, count, code, dims, dv⟩ := b
 simp only at h1 h5 h6
 unfold pathL ptsK NearP
 simp only
 clear h
 rcases legs_cases code with rfl | rfl | rfl | rfl | rfl | rfl | rfl | rfl | ⟨_, he⟩
 ·match dims, h5 with
  | [a], _ =>
    simp only [restB_cons] at h6
    simp [legsC, atK, addP, List.range_succ]; omega
 ·match dims, h5 with
  | [a, b], _ =>
    simp only [restB_cons] at h6
    simp [legsC, atK, addP, List.range_succ]; omega
 ·match dims, h5 with
  | [a, b, c], _ =>
    simp only [restB_cons] at h6
    simp [legsC, atK, addP, List.range_succ]; omega
 ·match dims, h5 with
  | [a, b, c], _ =>
    simp only [restB_cons] at h6
    simp [legsC, atK, addP, List.range_succ]; omega
 ·match dims, h5 with
  | [a, b, c], _ =>
    simp only [restB_cons] at h6
    simp [legsC, atK, addP, List.range_succ]; omega
 ·match dims, h5 with
  | [a, b, c, d, e], _ =>
    simp only [restB_cons] at h6
    simp [legsC, atK, addP, List.range_succ]; omega
 ·match dims, h5 with
  | [a, b, c], _ =>
    simp only [restB_cons] at h6
    simp [legsC, atK, addP, List.range_succ]; omega
 ·match dims, h5 with
  | [a, b, c], _ =>
    simp only [restB_cons] at h6
    simp [legsC, atK, addP, List.range_succ]; omega
 ·unfold dimsR at h1
  rw [he] at h1
  exact absurd h1 (by decide)

def laidP (r : Rn) (k : Int) (p : Pt) : Pt := ⟨(imgP r.tx r.ty p).x + r.ax + k * r.sx, (imgP r.tx r.ty p).y + r.ay + k * r.sy, (imgP r.tx r.ty p).z + r.az + k * r.sz⟩
def laidL (b : Br) (r : Rn) (k : Int) : List Pt := (pathL b).map (laidP r k)
def rightR (b : Br) (r : Rn) : Bool :=
 turnB r.tx r.ty && (decide (1 ≤ r.count) && (decide (r.count ≤ 1000) && (nearB ⟨r.ax, r.ay, r.az⟩ 1048576 && ((decide (r.count ≤ 1) || (!(decide (r.sx = 0) && (decide (r.sy = 0) && decide (r.sz = 0))) && nearB ⟨r.sx, r.sy, r.sz⟩ 2097152)) &&
  ((laidL b r 0).all (fun p => nearB p 1048576) && (laidL b r (r.count - 1)).all (fun p => nearB p 1048576))))))
def noBar : Br := ⟨⟨#[]⟩, 0, 0, 0, [], .slice none 0 0⟩
def barOf (bars : List Br) (m : ByteArray) : Br := bars.getD (findI bars m).toNat noBar
def runB (bars : List Br) (r : Rn) : Bool := decide (0 ≤ findI bars r.mark) && rightR (barOf bars r.mark) r
def schedB (bars : List Br) : Bool := decide (bars.length ≤ 60) && (List.range bars.length).all fun i => shapeB (bars.getD i noBar) && decide (findI bars (bars.getD i noBar).mark = i)
def countS : List Rn → Int
 | [] => 0
 | r :: l => r.count + countS l
def laidB (bars : List Br) (runs : List Rn) : Bool := schedB bars && (decide (runs.length ≤ 60) && (runs.all (runB bars) && decide (countS runs ≤ 2000)))

end Go.Proofs.YtkjljneehgmmaaaGreat


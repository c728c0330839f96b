/- TtG, TtK in one text. -/
import Derived.Test.YtkjljneehgmmaaaGreatClaK
import Derived.Test.YtkjljneehgmmaaaGreatAbK6
import Derived.Test.YtkjljneehgmmaaaGreatAbK7
import Derived.RegionTactic
import Derived.Deep.DeepCutAuto
namespace Go.Proofs.YtkjljneehgmmaaaGreat
set_option linter.unusedVariables false
set_option linter.unusedSimpArgs false
open Go Go.RowKit
set_option maxRecDepth 20000

theorem sqStep_nn {m n : Int} (hn : 0 ≤ n) : 0 ≤ sqStep m n := by unfold sqStep; split <;> omega
theorem sqRow_nn {m : Int} {a : Bx} {B : List Bx} (ha : validB a = true) (hB : ∀ b ∈ B, validB b = true) (hne : B ≠ []) : 0 ≤ sqRow m a B := by
 obtain ⟨b, B, rfl⟩ : ∃ b B', B = b :: B' := by cases B with | nil => exact absurd rfl hne | cons b B => exact ⟨b, B, rfl⟩
 have key : ∀ (L : List Bx) (m : Int), (∀ b ∈ L, validB b = true) → 0 ≤ m → 0 ≤ sqRow m a L := by
  intro L
  induction L with
  | nil => intro m _ h; exact h
  | cons c L ih => intro m h h0; exact ih _ (fun b hb => h b (List.mem_cons_of_mem _ hb)) (sqStep_nn (square_in ha (h c List.mem_cons_self)).1)
 exact key B _ (fun c hc => hB c (List.mem_cons_of_mem _ hc)) (sqStep_nn (square_in ha (hB b List.mem_cons_self)).1)
theorem sqI_nn {A B : List Bx} (hA : ∀ b ∈ A, validB b = true) (hB : ∀ b ∈ B, validB b = true) (hneA : A ≠ []) (hneB : B ≠ []) : 0 ≤ sqI A B := by
 obtain ⟨a, A, rfl⟩ : ∃ b B', A = b :: B' := by cases A with | nil => exact absurd rfl hneA | cons b B => exact ⟨b, B, rfl⟩
 have key : ∀ (L : List Bx) (m : Int), (∀ b ∈ L, validB b = true) → 0 ≤ m → 0 ≤ L.foldl (fun m a => sqRow m a B) m := by
  intro L
  induction L with
  | nil => intro m _ h; exact h
  | cons c L ih => intro m h h0; exact ih _ (fun b hb => h b (List.mem_cons_of_mem _ hb)) (sqRow_nn (h c List.mem_cons_self) hB hneB)
 exact key A _ (fun c hc => hA c (List.mem_cons_of_mem _ hc)) (sqRow_nn (hA a List.mem_cons_self) hB hneB)
def sqAt (A : List (List Bx)) (a b : Nat) : Int := sqI (A.getD a []) (A.getD b [])
def PB (n i k a b : Nat) : Prop := a < b ∧ b < n ∧ (a < i ∨ (a = i ∧ b < k))
def NrI (A : List (List Bx)) (i k : Nat) (m f s : Int) : Prop :=
 (m = -1 ∧ ∀ a b, ¬ PB A.length i k a b) ∨ ∃ a b : Nat, PB A.length i k a b ∧ f = a ∧ s = b ∧ m = sqAt A a b ∧ ∀ a' b', PB A.length i k a' b' → m ≤ sqAt A a' b'
theorem NrI.same {A : List (List Bx)} {i k i' k' : Nat} {m f s : Int} (h : NrI A i k m f s) (hp : ∀ a b, PB A.length i k a b ↔ PB A.length i' k' a b) : NrI A i' k' m f s := by
 rcases h with ⟨h1, h2⟩ | ⟨a, b, h1, h2, h3, h4, h5⟩
 ·exact .inl ⟨h1, fun a b q => h2 a b ((hp a b).2 q)⟩
 ·exact .inr ⟨a, b, (hp a b).1 h1, h2, h3, h4, fun a' b' q => h5 a' b' ((hp a' b').2 q)⟩
theorem NrI.take {A : List (List Bx)} {i k : Nat} {m f s : Int} (h : NrI A i k m f s) (hnn : ∀ a b, a < A.length → b < A.length → 0 ≤ sqAt A a b) (hik : i < k) (hk : k < A.length) (hm : m < 0 ∨ sqAt A i k < m) : NrI A i (k + 1) (sqAt A i k) i k := by
 refine .inr ⟨i, k, ⟨hik, hk, .inr ⟨rfl, by omega⟩⟩, rfl, rfl, rfl, fun a' b' q => ?_⟩
 obtain ⟨q1, q2, q3⟩ := q
 by_cases he : a' = i ∧ b' = k
 ·rw [he.1, he.2]; exact Int.le_refl _
 ·have hp : PB A.length i k a' b' := ⟨q1, q2, by omega⟩
  rcases h with ⟨h1, h2⟩ | ⟨a, b, h1, h2, h3, h4, h5⟩
  ·exact absurd hp (h2 a' b')
  ·have := h5 a' b' hp
   have h6 := hnn a b (by have := h1.1; have := h1.2.1; omega) h1.2.1
   omega
theorem NrI.keep {A : List (List Bx)} {i k : Nat} {m f s : Int} (h : NrI A i k m f s) (hm : ¬ m < 0) (hm2 : ¬ sqAt A i k < m) : NrI A i (k + 1) m f s := by
 rcases h with ⟨h1, h2⟩ | ⟨a, b, h1, h2, h3, h4, h5⟩
 ·omega
 ·refine .inr ⟨a, b, ⟨h1.1, h1.2.1, by have := h1.2.2; omega⟩, h2, h3, h4, fun a' b' q => ?_⟩
  obtain ⟨q1, q2, q3⟩ := q
  by_cases he : a' = i ∧ b' = k
  ·rw [he.1, he.2]; omega
  ·exact h5 a' b' ⟨q1, q2, by omega⟩
structure NsJ (W3 : World) (f s : Int) (W : World) : Prop where
 below : Below W3.heap.size W3 W
 b9 : ∃ p0 p1 p2 q0 q1 q2 : Int, Blk W W3.heap.size #[.int .i64 f, .int .i64 s, .int .i64 p0, .int .i64 p1, .int .i64 p2, .int .i64 q0, .int .i64 q1, .int .i64 q2] 101
theorem NsJ.grows {W3 W W' : World} {f s : Int} (h : NsJ W3 f s W) (hb : Below W.heap.size W W') : NsJ W3 f s W' := ⟨h.below.trans (Below.mono hb h.below.size), let ⟨a, b, c, d, e, f, k⟩ := h.b9; ⟨a, b, c, d, e, f, k.below hb⟩⟩
theorem legsAll_ok {l : List Br} {rs : List Rn} (h : laidB l rs = true) : (∀ L ∈ legsTo l rs (countS rs).toNat, ∀ b ∈ L, validB b = true) ∧ (∀ a b, a < (legsTo l rs (countS rs).toNat).length → b < (legsTo l rs (countS rs).toNat).length → 0 ≤ sqAt (legsTo l rs (countS rs).toNat) a b ∧ sqAt (legsTo l rs (countS rs).toNat) a b ≤ 13194139533312) := by
 have h1 : ∀ L ∈ legsTo l rs (countS rs).toNat, (∀ b ∈ L, validB b = true) ∧ L ≠ [] := by
  intro L hL
  obtain ⟨i, hi, rfl⟩ := List.mem_map.1 hL
  have hi2 := List.mem_range.1 hi
  refine ⟨legsI_valid h (by omega) (by omega), fun e => ?_⟩
  have := legsI_some h (i := (i : Int)) (by omega) (by omega)
  rw [e] at this
  simp at this
 refine ⟨fun L hL => (h1 L hL).1, fun a b ha hb => ?_⟩
 unfold sqAt
 rw [← List.getElem_eq_getD (h := ha), ← List.getElem_eq_getD (h := hb)]
 obtain ⟨v1, n1⟩ := h1 _ (List.getElem_mem ha)
 obtain ⟨v2, n2⟩ := h1 _ (List.getElem_mem hb)
 exact ⟨sqI_nn v1 v2 n1 n2, (sqI_in v1 v2).2⟩
def NearOk (A : List (List Bx)) (f s m : Int) : Prop := ∃ a b : Nat, a < b ∧ b < A.length ∧ f = a ∧ s = b ∧ m = sqAt A a b ∧ ∀ a' b', a' < b' → b' < A.length → m ≤ sqAt A a' b'
theorem NearOk.same {A : List (List Bx)} {f s m f' s' m' : Int} (h : NearOk A f s m) (h' : NearOk A f' s' m') : m = m' := by
 obtain ⟨a, b, h1, h2, -, -, h3, h4⟩ := h
 obtain ⟨a', b', k1, k2, -, -, k3, k4⟩ := h'
 have e1 := h4 a' b' k1 k2
 have e2 := k4 a b h1 h2
 omega
def RetNst (w : World) (A : List (List Bx)) (e : Ending) (W : World) : Prop :=
 ((A.length < 2 ∧ e = .returned (.tuple #[.agg #[.int .i64 0, .int .i64 0, .int .i64 0, .int .i64 0, .int .i64 0, .int .i64 0, .int .i64 0, .int .i64 0], .int .i64 0, .int .i64 12])) ∨ ∃ f s m p0 p1 p2 q0 q1 q2 : Int, NearOk A f s m ∧ e = .returned (.tuple #[.agg #[.int .i64 f, .int .i64 s, .int .i64 p0, .int .i64 p1, .int .i64 p2, .int .i64 q0, .int .i64 q1, .int .i64 q2], .int .i64 m, .int .i64 0])) ∧ ∃ y, W = ext w y
set_option maxRecDepth 100000 in
set_option maxHeartbeats 16000000 in
theorem Nearest_cl (l : List Br) (rs : List Rn) (v u : Value) (hv : laidB l rs = true) (w : World) (hl : Bars w v l) (hr : Runs w u rs) :
  Calls Tryz.prog 34 #[v, u] w (RetNst w (legsTo l rs (countS rs).toNat)) := by
 have hsp0 := fun w hl hr => spaceOf_c l rs v u hv w hl hr
 unfold RetSp at hsp0
 have HSP := hd0 hsp0
 clear hsp0
 have HL := hd0 hl
 have HR := hd0 hr
 obtain ⟨va, vc, rfl, -, -, -⟩ := hl.shape
 obtain ⟨ua, uc, rfl, -, -, -⟩ := hr.shape
 obtain ⟨hvA, hnn⟩ := legsAll_ok hv
 have hlen : (legsTo l rs (countS rs).toNat).length ≤ 2000 := by
  rw [legsTo_length]
  have := (count_le hv 0).2.2
  omega
 have HNN := hd0 hnn
 have HVA := hd0 hvA
 generalize legsTo l rs (countS rs).toNat = A at *
 generalize sizesTo l rs (countS rs).toNat = S at *
 clear hl hr hv hvA hnn
 go_enter Tryz.func34, Tryz.ntmps34
 go_upto_region 1 with fail
 refine world_mask (fun W => Below w.heap.size w W ∧ Blk W w.heap.size #[.int .i64 0, .int .i64 0, .int .i64 0, .int .i64 0, .int .i64 0, .int .i64 0, .int .i64 0, .int .i64 0] 101) _ ⟨gro, Blk.new _ _ _⟩ ?_
 rintro W2 ⟨hb2, K2⟩
 have HB2 := hd0 hb2
 have HK2 := hd0 K2
 clear hb2 K2
 go_upto_region 4 with (go_at_call 76; refine (HSP.out _ (HL.out.below HB2.out) (HR.out.below HB2.out)).mono ?_; rintro e w' ⟨p, rfl, hsp, y1, rfl⟩; have HSA := hd0 hsp; clear hsp)
 have HB3 := hd0 (show Below w.heap.size w (ext W2 y1) from grob HB2.out)
 have HK3 := hd0 (HK2.out.ext y1)
 clear HB2 HK2
 generalize ext W2 y1 = W3 at *
 obtain ⟨lv, sv, hp, ⟨la, lc, elv, -, hlc, -⟩, -⟩ := HSA.out
 subst elv
 have p0 : W3.cell? ⟨p, 0, none⟩ = some (.slice la A.length lc) := hp.cell 0
 by_cases hn2 : A.length < 2
 ·have d1 : decide ((A.length : Int) < 2) = true := by simp; omega
  go_wp2_with (refine wpList_store_row rfl _ _ _ rfl w.heap.size _ rfl rfl _ _ HK3.out rfl rfl (by simp [Value.oneCell']) ?_)
  have hb9 : Below w.heap.size w (W3.setRow w.heap.size #[.int .i64 0, .int .i64 0, .int .i64 0, .int .i64 0, .int .i64 0, .int .i64 0, .int .i64 0, .int .i64 0]) := below_row HB3.out (Nat.le_refl _) _
  have hk9 : Blk (W3.setRow w.heap.size #[.int .i64 0, .int .i64 0, .int .i64 0, .int .i64 0, .int .i64 0, .int .i64 0, .int .i64 0, .int .i64 0]) w.heap.size #[.int .i64 0, .int .i64 0, .int .i64 0, .int .i64 0, .int .i64 0, .int .i64 0, .int .i64 0, .int .i64 0] 101 := setRow_heap _ _ _ _ _ _ HK3.out
  generalize W3.setRow w.heap.size #[.int .i64 0, .int .i64 0, .int .i64 0, .int .i64 0, .int .i64 0, .int .i64 0, .int .i64 0, .int .i64 0] = W9 at *
  have g0 := hk9.cell 0
  have g1 := hk9.cell 1
  have g2 := hk9.cell 2
  have g3 := hk9.cell 3
  have g4 := hk9.cell 4
  have g5 := hk9.cell 5
  have g6 := hk9.cell 6
  have g7 := hk9.cell 7
  refine bodyPost_ret (v := .tuple #[.agg #[.int .i64 0, .int .i64 0, .int .i64 0, .int .i64 0, .int .i64 0, .int .i64 0, .int .i64 0, .int .i64 0], .int .i64 0, .int .i64 12]) (by simp [results, Tryz.results34, go_sem, g0, g1, g2, g3, g4, g5, g6, g7]) rfl ?_
  exact ⟨.inl ⟨hn2, rfl⟩, ext_of hb9⟩
 ·have d1 : decide ((A.length : Int) < 2) = false := by simp; omega
  have HN2 := hd0 hn2
  clear hn2
  have HP := hd0 hp
  go_upto_region 8 with fail
  refine world_mask (fun W => NsJ W3 0 0 W) _ ⟨gro, ⟨0, 0, 0, 0, 0, 0, Blk.new _ _ _⟩⟩ ?_
  clear p0 hp
  intro W1 J1
  have HJ1 := hd0 J1
  have p0 : W1.cell? ⟨p, 0, none⟩ = some (.slice la A.length lc) := (HP.out.below J1.below).cell 0
  clear J1
  go_wp2_with fail
  go_loopw [40, 10] (fun x y wr => ∃ (i : Nat) (f s m : Int), i ≤ A.length ∧ x = .int .i64 i ∧ y = .int .i64 m ∧ NrI A i (i + 1) m f s ∧ (-1 ≤ m ∧ m ≤ 13194139533312) ∧ NsJ W3 f s wr) (fun x _ _ => A.length - (intOf x).toNat)
  case atStart => exact ⟨0, 0, 0, -1, Nat.zero_le _, rfl, rfl, .inl ⟨rfl, fun a b q => by have := q.2.2; have := q.1; omega⟩, by decide, HJ1.out⟩
  case round =>
   obtain ⟨W5, rfl⟩ : ∃ W : World, W = wr := ⟨_, rfl⟩
   clear p0
   obtain ⟨i, f, s, m, hi, rfl, rfl, hnr, hmr, hj⟩ := hrel
   have HJ := hd0 hj
   have HNR := hd0 hnr
   by_cases hlt : i < A.length
   ·have HI := hd0 hlt
    have i1 : (0 : Int) ≤ (i : Int) := by omega
    have i2 : (i : Int) ≤ 2000 := by omega
    clear hj hnr
    go_wp2_with fail
    go_loopw [12, 10] (fun x y wr => ∃ (k : Nat) (f s m : Int), (i < k ∧ k ≤ A.length) ∧ x = .int .i64 k ∧ y = .int .i64 m ∧ NrI A i k m f s ∧ (-1 ≤ m ∧ m ≤ 13194139533312) ∧ NsJ W3 f s wr) (fun x _ _ => A.length - (intOf x).toNat)
    case atStart => exact ⟨i + 1, f, s, m, ⟨by omega, by omega⟩, by go_num, rfl, HNR.out, hmr, HJ.out⟩
    case round =>
     obtain ⟨W7, rfl⟩ : ∃ W : World, W = wr := ⟨_, rfl⟩
     clear HJ HNR hmr
     obtain ⟨k, f, s, m, ⟨hik, hk⟩, rfl, rfl, hnr, hmr, hj⟩ := hrel
     have HJ := hd0 hj
     have HNR := hd0 hnr
     have p0 : W7.cell? ⟨p, 0, none⟩ = some (.slice la A.length lc) := (HP.out.below hj.below).cell 0
     by_cases hkt : k < A.length
     ·have hsq := fun w hs => square_c A S p i k HI.out hkt HVA.out w hs
      have esq : sqI (A[i]'HI.out) (A[k]'hkt) = sqAt A i k := by unfold sqAt; rw [List.getElem_eq_getD (h := HI.out) [], List.getElem_eq_getD (h := hkt) []]
      rw [esq] at hsq
      have HSQ := hd0 hsq
      obtain ⟨n1, n2⟩ := HNN.out i k HI.out hkt
      have HTK := hd0 (fun hm => hnr.take (fun a b ha hb => (HNN.out a b ha hb).1) hik hkt hm)
      have HKP := hd0 (fun h1 h2 => hnr.keep (k := k) (i := i) h1 h2)
      generalize sqAt A i k = n at *
      have k1 : (0 : Int) ≤ (k : Int) := by omega
      have k2 : (k : Int) < (A.length : Int) := by omega
      have k3 : (k : Int) ≤ 2000 := by omega
      have HKT := hd0 (And.intro hik (And.intro hk hkt))
      clear hsq esq hj hnr hik hkt hk
      go_upto_region 15 with (go_at_call 77; refine (HSQ.out _ (HSA.out.below HJ.out.below)).mono ?_; rintro e w' ⟨a0, a1, a2, b0, b1, b2, rfl, y, rfl⟩)
      refine world_mask (fun W => Below W7.heap.size W7 W ∧ Blk W (W7.heap.size + y.heap.size) #[.int .i64 a0, .int .i64 a1, .int .i64 a2] 38 ∧ Blk W (W7.heap.size + y.heap.size + 1) #[.int .i64 b0, .int .i64 b1, .int .i64 b2] 38) _ ⟨gro, by first | exact (Blk.new' (by simp only [size_ext]) _ _).alloc _ | exact Blk.new' (by simp only [size_ext]) _ _, by exact Blk.new' (by simp only [World.size_alloc, size_ext]) _ _⟩ ?_
      clear p0
      generalize W7.heap.size + y.heap.size + 1 = g15
      generalize W7.heap.size + y.heap.size = g14
      rintro W8 ⟨hb8, h14, h15⟩
      have HJ8 := hd0 (HJ.out.grows hb8)
      by_cases hc : m < 0 ∨ n < m
      ·have HT := hd0 (HTK.out hc)
       have hd : decide (m < 0) = true ∨ decide (m < 0) = false ∧ decide (n < m) = true := by
        by_cases h : m < 0
        ·left; simpa using h
        ·right; exact ⟨by simpa using h, by simp; omega⟩
       clear hc
       obtain ⟨p0, p1, p2, q0, q1, q2, hb9⟩ := HJ8.out.b9
       have HK9 := hd0 hb9
       have a0' := h14.cell 0
       have a1' := h14.cell 1
       have a2' := h14.cell 2
       have b0' := h15.cell 0
       have b1' := h15.cell 1
       have b2' := h15.cell 2
       clear hb8 h14 h15 hb9
       rcases hd with d1 | ⟨d1, d2⟩
       all_goals
        go_wp2_with (refine wpList_store_row rfl _ _ _ rfl W3.heap.size _ rfl rfl _ _ HK9.out rfl rfl (by simp [Value.oneCell']) ?_)
        go_roundw
        case rel => exact ⟨k + 1, i, k, n, ⟨by have := HKT.out; omega, by have := HKT.out; omega⟩, by go_num, rfl, HT.out, by omega, ⟨below_row HJ8.out.below (Nat.le_refl _) _, ⟨a0, a1, a2, b0, b1, b2, setRow_heap _ _ _ _ _ _ HK9.out⟩⟩⟩
        case measure => simp [intOf]; omega
      ·have d1 : decide (m < 0) = false := by simp; omega
       have d2 : decide (n < m) = false := by simp; omega
       have HT := hd0 (HKP.out (by omega) (by omega))
       clear hc hb8 h14 h15
       go_wp2_with fail
       go_roundw
       case rel => exact ⟨k + 1, f, s, m, ⟨by have := HKT.out; omega, by have := HKT.out; omega⟩, by go_num, rfl, HT.out, hmr, HJ8.out⟩
       case measure => simp [intOf]; omega
     ·obtain rfl : k = A.length := by omega
      have HNS := hd0 (show NrI A (i + 1) (i + 1 + 1) m f s from hnr.same (fun a b => by unfold PB; constructor <;> (rintro ⟨q1, q2, q3⟩; exact ⟨q1, q2, by omega⟩)))
      clear hj hnr
      go_wp2
      go_roundw
      case rel => exact ⟨i + 1, f, s, m, by have := HI.out; omega, by go_num, rfl, HNS.out, hmr, HJ.out⟩
      case measure => simp [intOf]; omega
   ·obtain rfl : i = A.length := by omega
    have HNO := hd0 (show NearOk A f s m by
     rcases hnr with ⟨h1, h2⟩ | ⟨a, b, h1, h2, h3, h4, h5⟩
     ·exact absurd ⟨by decide, by have := HN2.out; omega, .inl (by have := HN2.out; omega)⟩ (h2 0 1)
     ·exact ⟨a, b, h1.1, h1.2.1, h2, h3, h4, fun a' b' q1 q2 => h5 a' b' ⟨q1, q2, .inl (by omega)⟩⟩)
    obtain ⟨p0, p1, p2, q0, q1, q2, hb9⟩ := hj.b9
    have hb4 := HK3.out.below hj.below
    have HB39 := hd0 (HB3.out.trans (Below.mono hj.below HB3.out.size))
    have HK4 := hd0 hb4
    have HK9 := hd0 hb9
    clear hj hnr hb9 hb4
    go_wp2_with (first | (refine wpList_load_row rfl _ _ rfl _ rfl _ _ _ _ HK9.out rfl rfl rfl ?_) | (refine wpList_store_row rfl _ _ _ rfl w.heap.size _ rfl rfl _ _ HK4.out rfl rfl (by simp [Value.oneCell']) ?_))
    have hb9 : Below w.heap.size w (W5.setRow w.heap.size #[.int .i64 f, .int .i64 s, .int .i64 p0, .int .i64 p1, .int .i64 p2, .int .i64 q0, .int .i64 q1, .int .i64 q2]) := below_row HB39.out (Nat.le_refl _) _
    have hk9 : Blk (W5.setRow w.heap.size #[.int .i64 f, .int .i64 s, .int .i64 p0, .int .i64 p1, .int .i64 p2, .int .i64 q0, .int .i64 q1, .int .i64 q2]) w.heap.size #[.int .i64 f, .int .i64 s, .int .i64 p0, .int .i64 p1, .int .i64 p2, .int .i64 q0, .int .i64 q1, .int .i64 q2] 101 := setRow_heap _ _ _ _ _ _ HK4.out
    generalize W5.setRow w.heap.size #[.int .i64 f, .int .i64 s, .int .i64 p0, .int .i64 p1, .int .i64 p2, .int .i64 q0, .int .i64 q1, .int .i64 q2] = W9 at *
    have g0 := hk9.cell 0
    have g1 := hk9.cell 1
    have g2 := hk9.cell 2
    have g3 := hk9.cell 3
    have g4 := hk9.cell 4
    have g5 := hk9.cell 5
    have g6 := hk9.cell 6
    have g7 := hk9.cell 7
    refine bodyPost_ret (v := .tuple #[.agg #[.int .i64 f, .int .i64 s, .int .i64 p0, .int .i64 p1, .int .i64 p2, .int .i64 q0, .int .i64 q1, .int .i64 q2], .int .i64 m, .int .i64 0]) (by simp [results, Tryz.results34, go_sem, g0, g1, g2, g3, g4, g5, g6, g7]) rfl ?_
    exact ⟨.inr ⟨f, s, m, p0, p1, p2, q0, q1, q2, HNO.out, rfl⟩, ext_of hb9⟩
set_option maxHeartbeats 16000000
set_option maxRecDepth 100000

theorem SquareCl_c (l : List Br) (rs : List Rn) (v u : Value) (hv : laidB l rs = true) (a b : Nat) (hab : a < b) (hb : b < (legsTo l rs (countS rs).toNat).length) (w : World) (hl : Bars w v l) (hr : Runs w u rs) :
  Calls Tryz.prog 45 #[v, u, .int .i64 a, .int .i64 b] w (Ret w (.tuple #[.int .i64 (sqAt (legsTo l rs (countS rs).toNat) a b), .int .i64 0])) := by
 have hsp0 := fun w hl hr => spaceOf_c l rs v u hv w hl hr
 unfold RetSp at hsp0
 have HSP := hd0 hsp0
 clear hsp0
 have HL := hd0 hl
 have HR := hd0 hr
 obtain ⟨va, vc, rfl, -, -, -⟩ := hl.shape
 obtain ⟨ua, uc, rfl, -, -, -⟩ := hr.shape
 obtain ⟨hvA, hnn⟩ := legsAll_ok hv
 generalize legsTo l rs (countS rs).toNat = A at *
 generalize sizesTo l rs (countS rs).toNat = S at *
 have ha : a < A.length := by omega
 have HSQ := hd0 (fun p w hs => square_c A S p a b ha hb hvA w hs)
 rw [show sqI (A[a]'ha) (A[b]'hb) = sqAt A a b by unfold sqAt; rw [List.getElem_eq_getD (h := ha) [], List.getElem_eq_getD (h := hb) []]] at HSQ
 have d1 : decide (min (a : Int) (b : Int) < 0) = false := by simp; omega
 have d2 : decide ((A.length : Int) ≤ max (a : Int) (b : Int)) = false := by simp; omega
 have d3 : ((a : Int) == (b : Int)) = false := by simp; omega
 have d4 : min (a : Int) (b : Int) = (a : Int) := by omega
 have d5 : max (a : Int) (b : Int) = (b : Int) := by omega
 have d6 : decide ((a : Int) < 0) = false := by simp
 have d7 : decide (A.length ≤ b) = false := by simp; omega
 have d8 : (a == b) = false := by simp; omega
 generalize sqAt A a b = n at *
 clear hl hr hv hvA hnn
 go_enter Tryz.func45, Tryz.ntmps45
 go_upto_region 2 with (go_at_call 76; refine (HSP.out _ (HL.out.below gro) (HR.out.below gro)).mono ?_; rintro e w' ⟨p, rfl, hsp, y1, rfl⟩; have HSA := hd0 hsp; clear hsp)
 obtain ⟨lv, sv, hp, ⟨la, lc, elv, -, hlc, -⟩, -⟩ := HSA.out
 subst elv
 have p0 : (ext w y1).cell? ⟨p, 0, none⟩ = some (.slice la A.length lc) := hp.cell 0
 have HB := hd0 (below_ext w y1)
 clear hp
 generalize ext w y1 = W at *
 go_wp2_with (go_at_call 77; refine (HSQ.out p _ HSA.out).mono ?_; rintro e w' ⟨a0, a1, a2, b0, b1, b2, rfl, y, rfl⟩)
 go_ret2
 exact Ret.of (grob HB.out)
theorem Nearest_none (l : List Br) (rs : List Rn) (v u : Value) (hv : laidB l rs = true) (hn : (legsTo l rs (countS rs).toNat).length < 2) (w : World) (hl : Bars w v l) (hr : Runs w u rs) :
  Calls Tryz.prog 34 #[v, u] w (Ret w (.tuple #[.agg #[.int .i64 0, .int .i64 0, .int .i64 0, .int .i64 0, .int .i64 0, .int .i64 0, .int .i64 0, .int .i64 0], .int .i64 0, .int .i64 12])) := by
 refine (Nearest_cl l rs v u hv w hl hr).mono ?_
 rintro e W ⟨⟨-, rfl⟩ | ⟨f, s, m, p0, p1, p2, q0, q1, q2, ⟨a, b, h1, h2, -⟩, -⟩, hy⟩
 ·exact ⟨rfl, hy⟩
 ·omega
def RetNo (w : World) (A : List (List Bx)) (e : Ending) (W : World) : Prop := (∃ f s m p0 p1 p2 q0 q1 q2 : Int, NearOk A f s m ∧ e = .returned (.tuple #[.agg #[.int .i64 f, .int .i64 s, .int .i64 p0, .int .i64 p1, .int .i64 p2, .int .i64 q0, .int .i64 q1, .int .i64 q2], .int .i64 m, .int .i64 0])) ∧ ∃ y, W = ext w y
theorem Nearest_some (l : List Br) (rs : List Rn) (v u : Value) (hv : laidB l rs = true) (hn : ¬ (legsTo l rs (countS rs).toNat).length < 2) (w : World) (hl : Bars w v l) (hr : Runs w u rs) :
  Calls Tryz.prog 34 #[v, u] w (RetNo w (legsTo l rs (countS rs).toNat)) := by
 refine (Nearest_cl l rs v u hv w hl hr).mono ?_
 rintro e W ⟨⟨h1, -⟩ | h1, hy⟩
 ·exact absurd h1 hn
 ·exact ⟨h1, hy⟩
def ClmOk (A : List (List Bx)) (f s q : Int) : Prop := (A.length < 2 ∧ f = -1 ∧ s = -1 ∧ q = -1) ∨ NearOk A f s q
def RetClm (w : World) (x : Dt) (e : Ending) (W : World) : Prop :=
 ∃ v f s q, e = .returned (.tuple #[.agg #[v, .int .i64 f, .int .i64 s, .int .i64 q], .int .i64 0]) ∧ StsR W v (supsI x) ∧ ClmOk (legsTo x.l x.rs (countS x.rs).toNat) f s q ∧ ∃ y, W = ext w y
theorem claimMake_c (x : Dt) (hv : DtV x) (hs : countS x.rs ≤ 16) (w : World) (h : DtAt w x) : Calls Tryz.prog 14 #[(.agg #[.string x.q.name, x.q.u, x.q.t, .int .i64 x.q.cover, .int .i64 x.q.agg, .int .i64 x.q.poker, x.lv, x.rv, x.pv, x.dv, .int .i64 x.ru.num, .int .i64 x.ru.den, .int .i64 x.ru.pn, .int .i64 x.ru.pd, .int .i64 x.ru.bn, .int .i64 x.ru.bd, .int .i64 x.ru.ln, .int .i64 x.ru.ld, .int .i64 x.ru.least])] w (RetClm w x) := by
 have HX := hd0 h
 have HLV := hd0 (fun w h => lapValid_c x hv w h)
 have HAL := hd0 (fun w h => supAll_c x hv hs w h)
 have HNA := hd0 (fun hn w hl hr => Nearest_none x.l x.rs x.lv x.rv hv.laid hn w hl hr)
 have HNB := hd0 (fun hn w hl hr => Nearest_some x.l x.rs x.lv x.rv hv.laid hn w hl hr)
 clear h hv hs
 unfold RetClm
 generalize legsTo x.l x.rs (countS x.rs).toNat = A at *
 go_enter Tryz.func14, Tryz.ntmps14
 go_upto_region 1 with fail
 refine world_mask (fun W => Below w.heap.size w W ∧ Blk W w.heap.size (dtC x) 34 ∧ Blk W (w.heap.size + 1) #[.slice none 0 0, .int .i64 0, .int .i64 0, .int .i64 0] 64) _ ⟨gro, (Blk.new _ _ _).alloc _, Blk.new' (by simp only [World.size_alloc]) _ _⟩ ?_
 rintro W2 ⟨hb2, K2, K3⟩
 have HB2 := hd0 hb2
 have HK2 := hd0 K2
 have HK3 := hd0 K3
 clear hb2 K2 K3
 go_upto_region 3 with (first | (refine wpList_load_row rfl _ _ rfl _ rfl _ (dtC x) _ _ HK2.out rfl rfl rfl ?_) | (go_at_call 27; refine (HLV.out _ (HX.out.below HB2.out)).mono ?_; rintro e w' ⟨rfl, x1, rfl⟩))
 refine world_mask (fun W => Below w.heap.size w W ∧ Blk W w.heap.size (dtC x) 34 ∧ Blk W (w.heap.size + 1) #[.slice none 0 0, .int .i64 0, .int .i64 0, .int .i64 0] 64) _ ⟨grob HB2.out, HK2.out.below gro, HK3.out.below gro⟩ ?_
 clear HB2 HK2 HK3
 rintro W3 ⟨hb2, K2, K3⟩
 have HB2 := hd0 hb2
 have HK2 := hd0 K2
 have HK3 := hd0 K3
 clear hb2 K2 K3
 go_upto_region 7 with (first | (refine wpList_load_row rfl _ _ rfl _ rfl _ (dtC x) _ _ HK2.out rfl rfl rfl ?_) | (go_at_call 33; refine (HAL.out _ (HX.out.below HB2.out)).mono ?_; rintro e w' ⟨va, rfl, hsr, y1, rfl⟩; obtain ⟨aa, ac, eva, -⟩ := hsr.read.shape; subst eva; have HSR := hd0 hsr; clear hsr))
 obtain ⟨M, hM⟩ : ∃ M, M = W3.heap.size := ⟨_, rfl⟩
 rw [← hM] at HSR
 have hMg : w.heap.size + 1 < M := by have := HK3.out.lt; omega
 clear hM
 refine world_mask (fun W => Below w.heap.size w W ∧ Blk W w.heap.size (dtC x) 34 ∧ Blk W (w.heap.size + 1) #[.slice none 0 0, .int .i64 0, .int .i64 0, .int .i64 0] 64 ∧ StW M W (.slice aa (supsI x).length ac) (supsI x) ∧ Blk W (W3.heap.size + y1.heap.size) #[.slice aa (supsI x).length ac, .int .i64 (-1), .int .i64 (-1), .int .i64 (-1)] 64) _ ⟨grob HB2.out, HK2.out.below gro, HK3.out.below gro, HSR.out.below gro, Blk.new' (by simp only [size_ext]) _ _⟩ ?_
 have hg6 : w.heap.size + 1 < W3.heap.size + y1.heap.size := by have := HK3.out.lt; omega
 clear HB2 HK2 HK3 HSR
 generalize W3.heap.size + y1.heap.size = g6 at *
 rintro W4 ⟨hb4, K2, K3, hsr, K6⟩
 have HB4 := hd0 hb4
 have HK2 := hd0 K2
 have HK3 := hd0 K3
 have HK6 := hd0 K6
 have HSR := hd0 hsr
 have c6 : W4.cell? ⟨w.heap.size, 6, none⟩ = some x.lv := K2.cell 6
 have c7 : W4.cell? ⟨w.heap.size, 7, none⟩ = some x.rv := K2.cell 7
 clear hb4 K2 K3 K6 hsr
 by_cases hn2 : A.length < 2
 ·have HN1 := hd0 (HNA.out hn2)
  go_upto_region 8 with (go_at_call 34; refine (HN1.out _ (HX.out.l.below HB4.out) (HX.out.rs.below HB4.out)).mono ?_; rintro e w' ⟨rfl, y2, rfl⟩)
  clear c6 c7
  refine world_mask (fun W => Below w.heap.size w W ∧ Blk W (w.heap.size + 1) #[.slice none 0 0, .int .i64 0, .int .i64 0, .int .i64 0] 64 ∧ StW M W (.slice aa (supsI x).length ac) (supsI x) ∧ Blk W g6 #[.slice aa (supsI x).length ac, .int .i64 (-1), .int .i64 (-1), .int .i64 (-1)] 64) _ ⟨grob HB4.out, HK3.out.below gro, HSR.out.below gro, HK6.out.below gro⟩ ?_
  clear HB4 HK2 HK3 HK6 HSR
  rintro W5 ⟨hb4, K3, hsr, K6⟩
  have HB4 := hd0 hb4
  have HK3 := hd0 K3
  have HK6 := hd0 K6
  have HSR := hd0 hsr
  clear hb4 K3 K6 hsr
  go_wp2_with (first | (refine wpList_load_row rfl _ _ rfl _ rfl _ _ _ _ HK6.out rfl rfl rfl ?_) | (refine wpList_store_row rfl _ _ _ rfl (w.heap.size + 1) #[.slice aa (supsI x).length ac, .int .i64 (-1), .int .i64 (-1), .int .i64 (-1)] rfl rfl _ _ HK3.out rfl rfl (by simp [Value.oneCell']) ?_))
  have hb9 : Below w.heap.size w (W5.setRow (w.heap.size + 1) #[.slice aa (supsI x).length ac, .int .i64 (-1), .int .i64 (-1), .int .i64 (-1)]) := below_row HB4.out (Nat.le_add_right _ _) _
  have hk9 : Blk (W5.setRow (w.heap.size + 1) #[.slice aa (supsI x).length ac, .int .i64 (-1), .int .i64 (-1), .int .i64 (-1)]) (w.heap.size + 1) #[.slice aa (supsI x).length ac, .int .i64 (-1), .int .i64 (-1), .int .i64 (-1)] 64 := blk_row HK3.out _
  have hs9 : StsR (W5.setRow (w.heap.size + 1) #[.slice aa (supsI x).length ac, .int .i64 (-1), .int .i64 (-1), .int .i64 (-1)]) (.slice aa (supsI x).length ac) (supsI x) := (HSR.out.row hMg _).read
  generalize W5.setRow (w.heap.size + 1) #[.slice aa (supsI x).length ac, .int .i64 (-1), .int .i64 (-1), .int .i64 (-1)] = W9 at *
  have g0 := hk9.cell 0
  have g1 := hk9.cell 1
  have g2 := hk9.cell 2
  have g3 := hk9.cell 3
  refine bodyPost_ret (v := .tuple #[.agg #[.slice aa (supsI x).length ac, .int .i64 (-1), .int .i64 (-1), .int .i64 (-1)], .int .i64 0]) (by simp [results, Tryz.results14, go_sem, g0, g1, g2, g3]) rfl ?_
  exact ⟨_, -1, -1, -1, rfl, hs9, .inl ⟨hn2, rfl, rfl, rfl⟩, ext_of hb9⟩
 ·have HN1 := hd0 (HNB.out hn2)
  unfold RetNo at HN1
  go_upto_region 8 with (go_at_call 34; refine (HN1.out _ (HX.out.l.below HB4.out) (HX.out.rs.below HB4.out)).mono ?_; rintro e w' ⟨⟨f, s, m, p0, p1, p2, q0, q1, q2, hno, rfl⟩, y2, rfl⟩)
  have HNO := hd0 hno
  have HG6 := hd0 HK6.out.lt
  clear c6 c7 hno hn2
  refine world_mask (fun W => Below w.heap.size w W ∧ Blk W (w.heap.size + 1) #[.slice none 0 0, .int .i64 0, .int .i64 0, .int .i64 0] 64 ∧ StW M W (.slice aa (supsI x).length ac) (supsI x) ∧ Blk W g6 #[.slice aa (supsI x).length ac, .int .i64 (-1), .int .i64 (-1), .int .i64 (-1)] 64 ∧ Blk W (W4.heap.size + y2.heap.size) #[.int .i64 f, .int .i64 s, .int .i64 p0, .int .i64 p1, .int .i64 p2, .int .i64 q0, .int .i64 q1, .int .i64 q2] 101) _ ⟨grob HB4.out, HK3.out.below gro, HSR.out.below gro, HK6.out.below gro, Blk.new' (by simp only [size_ext]) _ _⟩ ?_
  clear HB4 HK2 HK3 HK6 HSR
  have HG67 := hd0 (show g6 < W4.heap.size + y2.heap.size by have := HG6.out; omega)
  generalize W4.heap.size + y2.heap.size = g7 at *
  rintro W5 ⟨hb4, K3, hsr, K6, K7⟩
  have HB4 := hd0 hb4
  have HK3 := hd0 K3
  have HK6 := hd0 K6
  have HSR := hd0 hsr
  have c0 := K7.cell 0
  have c1 := K7.cell 1
  have f1 := K6.frozen 1
  have f2 := K6.frozen 2
  have f3 := K6.frozen 3
  have t1 := K6.cell 1
  have t2 := K6.cell 2
  have t3 := K6.cell 3
  clear hb4 K3 K6 hsr K7
  have hne : g7 ≠ g6 := by have := HG67.out; omega
  go_upto_region 11 with fail
  go_region
  go_upto_region 13 with fail
  have hn1 : w.heap.size + 1 ≠ g6 := by omega
  refine world_mask (fun W => Below w.heap.size w W ∧ Blk W (w.heap.size + 1) #[.slice none 0 0, .int .i64 0, .int .i64 0, .int .i64 0] 64 ∧ StW M W (.slice aa (supsI x).length ac) (supsI x) ∧ Blk W g6 #[.slice aa (supsI x).length ac, .int .i64 f, .int .i64 s, .int .i64 m] 64) _ ⟨?_, ?_, ?_, ?_⟩ ?_
  ·have hle : w.heap.size ≤ g6 := by omega
   exact grow_drew (((HB4.out.setCell hle _).setCell hle _).setCell hle _)
  ·exact blk_drew (((HK3.out.other hn1 _).other hn1 _).other hn1 _)
  ·exact HSR.out.other HK6.out (by decide) (by decide) (fun b hb => by
    show ((((W5.setCell ⟨g6, 1, none⟩ (.int .i64 f)).setCell ⟨g6, 2, none⟩ (.int .i64 s)).setCell ⟨g6, 3, none⟩ (.int .i64 m))).heap[b]? = _
    rw [Below.heap_setCell _ _ _ _ hb, Below.heap_setCell _ _ _ _ hb, Below.heap_setCell _ _ _ _ hb])
  ·exact blk_drew (((HK6.out.set 1 _).set 2 _).set 3 _)
  clear c0 c1 f1 f2 f3 t1 t2 t3 hne HB4 HK3 HK6 HSR
  rintro W6 ⟨hb4, K3, hsr, K6⟩
  have HB4 := hd0 hb4
  have HK3 := hd0 K3
  have HK6 := hd0 K6
  have HSR := hd0 hsr
  clear hb4 K3 K6 hsr
  go_wp2_with (first | (refine wpList_load_row rfl _ _ rfl _ rfl _ _ _ _ HK6.out rfl rfl rfl ?_) | (refine wpList_store_row rfl _ _ _ rfl (w.heap.size + 1) #[.slice aa (supsI x).length ac, .int .i64 f, .int .i64 s, .int .i64 m] rfl rfl _ _ HK3.out rfl rfl (by simp [Value.oneCell']) ?_))
  have hb9 : Below w.heap.size w (W6.setRow (w.heap.size + 1) #[.slice aa (supsI x).length ac, .int .i64 f, .int .i64 s, .int .i64 m]) := below_row HB4.out (Nat.le_add_right _ _) _
  have hk9 : Blk (W6.setRow (w.heap.size + 1) #[.slice aa (supsI x).length ac, .int .i64 f, .int .i64 s, .int .i64 m]) (w.heap.size + 1) #[.slice aa (supsI x).length ac, .int .i64 f, .int .i64 s, .int .i64 m] 64 := blk_row HK3.out _
  have hs9 : StsR (W6.setRow (w.heap.size + 1) #[.slice aa (supsI x).length ac, .int .i64 f, .int .i64 s, .int .i64 m]) (.slice aa (supsI x).length ac) (supsI x) := (HSR.out.row hMg _).read
  generalize W6.setRow (w.heap.size + 1) #[.slice aa (supsI x).length ac, .int .i64 f, .int .i64 s, .int .i64 m] = W9 at *
  have g0 := hk9.cell 0
  have g1 := hk9.cell 1
  have g2 := hk9.cell 2
  have g3 := hk9.cell 3
  refine bodyPost_ret (v := .tuple #[.agg #[.slice aa (supsI x).length ac, .int .i64 f, .int .i64 s, .int .i64 m], .int .i64 0]) (by simp [results, Tryz.results14, go_sem, g0, g1, g2, g3]) rfl ?_
  exact ⟨_, f, s, m, rfl, hs9, .inr HNO.out, ext_of hb9⟩
end Go.Proofs.YtkjljneehgmmaaaGreat


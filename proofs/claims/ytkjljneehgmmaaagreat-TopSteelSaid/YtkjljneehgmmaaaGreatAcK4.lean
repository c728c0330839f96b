/- TtC, TtD in one text. -/
import Derived.Test.YtkjljneehgmmaaaGreatAbK7
import Derived.Deep.MidRow
import Derived.Deep.RegionLaw
import Derived.Lib.SliceRun
namespace Go.Proofs.YtkjljneehgmmaaaGreat
set_option linter.unusedVariables false
set_option linter.unusedSimpArgs false
open Go Go.RowKit
set_option maxRecDepth 20000
set_option maxHeartbeats 8000000
set_option maxRecDepth 100000

theorem below_setCellsT {B : Nat} {a : World} (b : Nat) (hb : B ≤ b) : ∀ (vs : List Value) (o : Nat) {w : World}, Below B a w → Below B a (w.setCells b o vs)
 | [], _, _, h => h
 | v :: r, o, _, h => below_setCellsT b hb r (o + 1) (h.setCell (p := ⟨b, o, none⟩) hb v)

theorem run_clear_cellsT {P : Program} (w : World) (t e ty : TypeId) (z : Value) (n : Nat) (ht : P.underlying t = some (.slice e)) (hv : ∀ w, (zeroValue e).run P w = .ok z w) (cs : List Value) (hn : 0 < n) (hz : (Builtin.zeroCells z.cells n).toList = cs) (h1 : ∀ v ∈ cs, v.oneCell' = true) (b o c : Nat)
  (hc : w.there b o cs.length) :
  (Builtin.clear_ #[t] ty #[.slice (some ⟨b, o, none⟩) n c]).run P w = .ok (.tuple #[]) (w.setCells b o cs) := by
 have hst := run_storeCells_cells (P := P) b o cs 0 w (by simpa using fun j hj => (hc j hj).1) (by simpa using fun j hj => (hc j hj).2) h1
 simp only [Nat.add_zero] at hst
 obtain ⟨m, rfl⟩ : ∃ m, n = m + 1 := ⟨n - 1, by omega⟩
 simp [Builtin.clear_, run_underlying ht, hv, hz, hst]

theorem chCells_set (P : List (Ch × Value)) (k : Nat) (p : Ch × Value) (h : k < P.length) :
  (((((chCells P).set (k * 5) p.2).set (k * 5 + 1) (.int .i64 p.1.lo)).set (k * 5 + 2) (.int .i64 p.1.hi)).set (k * 5 + 3) (.bool p.1.is)).set (k * 5 + 4) (.int .i64 p.1.area) = chCells (P.set k p) := by
 induction P generalizing k with
 | nil => simp at h
 | cons a P ih =>
   cases k with
   | zero => simp [chCells, ch1]
   | succ k =>
     have hl : k < P.length := by simpa using h
     have e : ∀ j, (k + 1) * 5 + j = (k * 5 + j) + 1 + 1 + 1 + 1 + 1 := fun j => by omega
     have e0 : (k + 1) * 5 = k * 5 + 1 + 1 + 1 + 1 + 1 := by omega
     rw [e 4, e 3, e 2, e 1, e0]
     show _ = chCells (a :: P.set k p)
     have hc : ∀ M, chCells (a :: M) = a.2 :: .int .i64 a.1.lo :: .int .i64 a.1.hi :: .bool a.1.is :: .int .i64 a.1.area :: chCells M := fun M => rfl
     rw [hc, hc]
     simp only [List.set_cons_succ]
     rw [ih k hl]
def set5 (W : World) (g i : Nat) (p : Ch × Value) : World :=
 ((((W.setCell ⟨g, i, none⟩ p.2).setCell ⟨g, i + 1, none⟩ (.int .i64 p.1.lo)).setCell ⟨g, i + 2, none⟩ (.int .i64 p.1.hi)).setCell ⟨g, i + 3, none⟩ (.bool p.1.is)).setCell ⟨g, i + 4, none⟩ (.int .i64 p.1.area)
theorem set5_below {B W : World} {g : Nat} (h : Below B.heap.size B W) (hg : B.heap.size ≤ g) (i : Nat) (p : Ch × Value) : Below B.heap.size B (set5 W g i p) := ((((h.setCell hg _).setCell hg _).setCell hg _).setCell hg _).setCell hg _
theorem own_set5 {W : World} {base g cap : Nat} {P : List (Ch × Value)} {k n : Nat} (p : Ch × Value) (hn : n = P.length) (h : W.ownsRow base 79 5 (.slice (some ⟨g, 0, none⟩) n cap) n (chCells P)) (hk : k < P.length) : (set5 W g (k * 5) p).ownsRow base 79 5 (.slice (some ⟨g, 0, none⟩) n cap) n (chCells (P.set k p)) := by
 subst hn
 obtain ⟨cur, h1, h2, h3, h4, h5, h6⟩ := own_bk h
 refine ⟨by rw [chCells_length, List.length_set], .inr ⟨g, cap, _, rfl, h4, ((((h1.set _ _).set _ _).set _ _).set _ _).set _ _, h5, h6, by simpa using h2, ?_⟩⟩
 simp only [Array.toList_setIfInBounds]
 rw [List.take_set, List.take_set, List.take_set, List.take_set, List.take_set, h3]
 exact chCells_set P k p hk
theorem indexFunc_ch (F : Nat) (hE : Enters F) (caps : Array Value) (p : Ch → Bool) (l : List Ch) (v : Value) (w : World) (hl : ChR w v l)
  (hf : ∀ c a n cp x, c ∈ l → Calls Tryz.prog F (#[.agg #[.slice a n cp, .int .i64 c.lo, .int .i64 c.hi, .bool c.is, .int .i64 c.area]] ++ caps) (ext w x) (Ret (ext w x) (.bool (p c)))) :
  Calls Tryz.prog 111 #[v, .func (.func F) #[] caps] w (Ret w (.int .i64 (((l.findIdx? p).map (fun i : Nat => (i : Int))).getD (-1)))) := by
 obtain ⟨a, cap, rfl, h2, h3, h4⟩ := hl
 have HF := hd0 hf
 have hn : l.length ≤ 9223372036854775807 := by omega
 have H4 := hd0 h4
 clear hf h4
 go_enter Tryz.func111, Tryz.ntmps111
 go_wp2_with fail
 go_loopw [8, 5] (fun i j wr => ∃ k : Nat, k ≤ l.length ∧ i = .int .i64 k ∧ (∃ x, wr = ext w x) ∧ ∀ j (h : j < k) (h' : j < l.length), p l[j] = false) (fun i j _ => l.length - (intOf i).toNat)
 case atStart => exact ⟨0, by omega, rfl, ext_of (Below.refl _ _), fun j h => by omega⟩
 case round =>
  obtain ⟨k, hk, rfl, ⟨x, rfl⟩, hno⟩ := hrel
  have HNO := hd0 hno
  clear hno
  by_cases hlt : k < l.length
  ·obtain ⟨b, off, u, rfl, hb, hu⟩ := (H4.out k hlt)
   obtain ⟨c0, c1, c2, c3, c4⟩ := hb.ext x
   obtain ⟨ua, uc, rfl, -, -, -⟩ := hu.shape
   have hcall := HF.out l[k] ua (l[k]).bars.length uc x (List.getElem_mem hlt)
   have q1 : (0 : Int) ≤ (k : Int) := by omega
   have q2 : (k : Int) < (l.length : Int) := by omega
   obtain ⟨f, hf⟩ : ∃ f, f = l[k] := ⟨_, rfl⟩
   rw [← hf] at c0 c1 c2 c3 c4 hcall
   have HK := hd0 hf
   obtain ⟨bars, lo, hi, is, area⟩ := f
   simp only at c0 c1 c2 c3 c4 hcall
   generalize bars.length = nb at *
   have HC := hd0 hcall
   clear hf hb hcall hu
   go_wp2_with fail
   rw [show ∀ (a : Array Value) (w : World), (callFunc F a).run Tryz.prog w = .ok (.enter F a) w from hE, Oper.upon_enter]
   refine HC.out.mono ?_
   rintro e w' ⟨rfl, y, rfl⟩
   clear c0 c1 c2 c3 c4
   cases hp : p ⟨bars, lo, hi, is, area⟩
   ·have HP := hd0 (show p l[k] = false by rw [← HK.out]; exact hp)
    clear hp
    go_wp2
    go_roundw
    case rel => exact ⟨k + 1, by omega, by go_num, ⟨_, ext_ext _ _ _⟩, fun j h1 h2 => by
     rcases Nat.lt_or_ge j k with h | h
     ·exact HNO.out j h h2
     ·obtain rfl : j = k := by omega
      exact HP.out⟩
    case measure => simp [intOf]; omega
   ·have he : l.findIdx? p = some k := by
     rw [List.findIdx?_eq_some_iff_getElem]
     exact ⟨hlt, by rw [← HK.out]; exact hp, fun j hj => by simp [HNO.out j hj (by omega)]⟩
    have HE := hd0 he
    clear he hp
    go_wp2
    go_ret
    rw [HE.out]
    exact Ret.of gro
  ·have he : l.findIdx? p = none := by
    rw [List.findIdx?_eq_none_iff]
    intro z hz
    obtain ⟨j, hj, rfl⟩ := List.getElem_of_mem hz
    exact HNO.out j (by omega) hj
   have HE := hd0 he
   clear he
   go_wp2
   go_ret
   rw [HE.out]
   exact Ret.of gro
theorem zeroChs (n : Nat) : ∀ v ∈ (Builtin.zeroCells (.agg #[.slice none 0 0, .int .i64 0, .int .i64 0, .bool false, .int .i64 0] : Value).cells n).toList, v.oneCell' = true := by
 have hz : (.agg #[.slice none 0 0, .int .i64 0, .int .i64 0, .bool false, .int .i64 0] : Value).cells = #[.slice none 0 0, .int .i64 0, .int .i64 0, .bool false, .int .i64 0] := by kernel_rfl
 rw [hz]
 unfold Builtin.zeroCells
 intro v hv
 rw [Array.toList_map] at hv
 obtain ⟨i, -, rfl⟩ := List.mem_map.1 hv
 have : i % 5 = 0 ∨ i % 5 = 1 ∨ i % 5 = 2 ∨ i % 5 = 3 ∨ i % 5 = 4 := by omega
 show (#[Value.slice none 0 0, .int .i64 0, .int .i64 0, .bool false, .int .i64 0][i % 5]!).oneCell' = true
 rcases this with h | h | h | h | h <;> rw [h] <;> rfl
theorem zeroChs_length (n : Nat) : (Builtin.zeroCells (.agg #[.slice none 0 0, .int .i64 0, .int .i64 0, .bool false, .int .i64 0] : Value).cells n).toList.length = n * 5 := by
 rw [Array.length_toList, size_zeroCells]
 rfl
theorem ChR.of_range {w : World} {g cap : Nat} {P : List (Ch × Value)} (h : w.rangeAt g 0 (chCells P)) (hcap : P.length ≤ cap) (hcap2 : cap ≤ 9223372036854775807) (hu : ∀ p ∈ P, Nts w p.2 p.1.bars) : ChR w (.slice (some ⟨g, 0, none⟩) P.length cap) (P.map (·.1)) := by
 refine ⟨some ⟨g, 0, none⟩, cap, by rw [List.length_map], by rw [List.length_map]; exact hcap, hcap2, fun i hi => ?_⟩
 have hi' : i < P.length := by simpa using hi
 have key : ∀ j, j < 5 → w.cell? ⟨g, 0 + i * 5 + j, none⟩ = (ch1 P[i].1 P[i].2)[j]? := fun j hj => by
  rw [← chCells_get P i hi' j hj]
  have hlt : i * 5 + j < (chCells P).length := by rw [chCells_length]; omega
  have := h (i * 5 + j) _ (List.getElem?_eq_getElem hlt)
  rw [List.getElem?_eq_getElem hlt]
  simpa [Nat.add_assoc] using this
 refine ⟨g, 0, P[i].2, rfl, ?_, ?_⟩
 ·rw [List.getElem_map]
  exact ⟨key 0 (by decide), key 1 (by decide), key 2 (by decide), key 3 (by decide), key 4 (by decide)⟩
 ·rw [List.getElem_map]
  exact hu _ (List.getElem_mem hi')
structure DlJ (W1 : World) (P : List (Ch × Value)) (p : Ch → Bool) (g cap j i : Nat) (W : World) : Prop where
 below : Below W1.heap.size W1 W
 parts : ∃ A M : List (Ch × Value), A.length = i ∧ A.map (·.1) = ((P.map (·.1)).take j).filter (fun c => !p c) ∧ 0 < M.length ∧ A.length + M.length = j ∧ (∀ q ∈ A ++ M, q ∈ P) ∧ W.ownsRow W1.heap.size 79 5 (.slice (some ⟨g, 0, none⟩) P.length cap) P.length (chCells (A ++ M ++ P.drop j))
theorem DlJ.grows {W1 W W' : World} {P : List (Ch × Value)} {p : Ch → Bool} {g cap j i : Nat} (h : DlJ W1 P p g cap j i W) (hb : Below W.heap.size W W') : DlJ W1 P p g cap j i W' := by
 obtain ⟨A, M, h1, h2, h3, h4, h5, h6⟩ := h.parts
 exact ⟨h.below.trans (Below.mono hb h.below.size), A, M, h1, h2, h3, h4, h5, own_grows h6 hb⟩
theorem DlJ.skip {W1 W : World} {P : List (Ch × Value)} {p : Ch → Bool} {g cap j i : Nat} (h : DlJ W1 P p g cap j i W) (hj : j < P.length) (hp : p (P[j]).1 = true) : DlJ W1 P p g cap (j + 1) i W := by
 obtain ⟨A, M, h1, h2, h3, h4, h5, h6⟩ := h.parts
 refine ⟨h.below, A, M ++ [P[j]], h1, ?_, by simp, by simp; omega, fun q hq => ?_, ?_⟩
 ·have hj' : j < (P.map (·.1)).length := by simpa using hj
  rw [List.take_succ_eq_append_getElem hj', List.filter_append, ← h2, List.getElem_map]
  simp [hp]
 ·rw [← List.append_assoc] at hq
  rcases List.mem_append.1 hq with hq | hq
  ·exact h5 q hq
  ·obtain rfl := List.mem_singleton.1 hq
   exact List.getElem_mem hj
 ·have e : A ++ (M ++ [P[j]]) ++ P.drop (j + 1) = A ++ M ++ P.drop j := by
   rw [List.drop_eq_getElem_cons hj]
   simp
  rw [e]
  exact h6
theorem DlJ.keep {W1 W : World} {P : List (Ch × Value)} {p : Ch → Bool} {g cap j i : Nat} (h : DlJ W1 P p g cap j i W) (hj : j < P.length) (hp : p (P[j]).1 = false) : DlJ W1 P p g cap (j + 1) (i + 1) (set5 W g (i * 5) P[j]) := by
 obtain ⟨A, M, h1, h2, h3, h4, h5, h6⟩ := h.parts
 obtain ⟨m, M, rfl⟩ : ∃ m M', M = m :: M' := by cases M with | nil => cases h3 | cons m M => exact ⟨m, M, rfl⟩
 have hg : W1.heap.size ≤ g := (h6.lt g rfl).1
 refine ⟨set5_below h.below hg _ _, A ++ [P[j]], M ++ [P[j]], by simp [h1], ?_, by simp, by simp at h4 ⊢; omega, fun q hq => ?_, ?_⟩
 ·have hj' : j < (P.map (·.1)).length := by simpa using hj
  rw [List.take_succ_eq_append_getElem hj', List.filter_append, ← h2, List.getElem_map, List.map_append]
  simp [hp]
 ·rcases List.mem_append.1 hq with hq | hq
  ·rcases List.mem_append.1 hq with hq | hq
   ·exact h5 q (List.mem_append_left _ hq)
   ·obtain rfl := List.mem_singleton.1 hq
    exact List.getElem_mem hj
  ·rcases List.mem_append.1 hq with hq | hq
   ·exact h5 q (List.mem_append_right _ (List.mem_cons_of_mem _ hq))
   ·obtain rfl := List.mem_singleton.1 hq
    exact List.getElem_mem hj
 ·have hl : (A ++ m :: M ++ P.drop j).length = P.length := by
   simp only [List.length_append, List.length_cons, List.length_drop] at h4 ⊢
   omega
  have hs := own_set5 (k := i) P[j] hl.symm h6 (by simp; omega)
  have e : (A ++ m :: M ++ P.drop j).set i P[j] = A ++ [P[j]] ++ (M ++ [P[j]]) ++ P.drop (j + 1) := by
   rw [List.append_assoc, List.set_append_right _ _ (by omega), h1, Nat.sub_self, List.drop_eq_getElem_cons hj]
   simp
  rw [e] at hs
  exact hs
theorem DlJ.cells {W1 W : World} {P : List (Ch × Value)} {p : Ch → Bool} {g cap j i : Nat} (h : DlJ W1 P p g cap j i W) (hj : j < P.length) : ChAt W g (j * 5) (P[j]).1 (P[j]).2 := by
 obtain ⟨A, M, h1, h2, h3, h4, h5, h6⟩ := h.parts
 have hl : j < (A ++ M ++ P.drop j).length := by simp; omega
 have e : (A ++ M ++ P.drop j)[j] = P[j] := by
  rw [List.getElem_append_right (by simp; omega)]
  simp [h4]
 obtain ⟨cur, k1, k2, k3, -, k5, -⟩ := own_bk h6
 have key : ∀ q, q < 5 → W.cell? ⟨g, j * 5 + q, none⟩ = (ch1 P[j].1 P[j].2)[q]? := fun q hq => by
  have hb : j * 5 + q < P.length * 5 := by omega
  rw [k1.cell (j * 5 + q), ← Array.getElem?_toList, ← List.getElem?_take_of_lt hb, k3, chCells_get _ j hl q hq, e]
 exact ⟨key 0 (by decide), key 1 (by decide), key 2 (by decide), key 3 (by decide), key 4 (by decide)⟩
theorem DlJ.there {W1 W : World} {P : List (Ch × Value)} {p : Ch → Bool} {g cap j i : Nat} (h : DlJ W1 P p g cap j i W) : W.there g 0 (P.length * 5) := by
 obtain ⟨A, M, h1, h2, h3, h4, h5, h6⟩ := h.parts
 obtain ⟨cur, k1, k2, k3, -, k5, -⟩ := own_bk h6
 intro q hq
 have hq2 : q < cur.size := by rw [k2]; exact Nat.lt_of_lt_of_le hq (Nat.mul_le_mul_right _ k5)
 rw [Nat.zero_add]
 exact ⟨by rw [k1.cell q, Array.getElem?_eq_getElem hq2]; rfl, k1.frozen q⟩
theorem DlJ.lt {W1 W : World} {P : List (Ch × Value)} {p : Ch → Bool} {g cap j i : Nat} (h : DlJ W1 P p g cap j i W) : i < j ∧ g < W.heap.size ∧ W1.heap.size ≤ g := by
 obtain ⟨A, M, h1, h2, h3, h4, h5, h6⟩ := h.parts
 exact ⟨by omega, (h6.lt g rfl).2, (h6.lt g rfl).1⟩
theorem DlJ.done {W1 W : World} {P : List (Ch × Value)} {p : Ch → Bool} {g cap i : Nat} (h : DlJ W1 P p g cap P.length i W) (hin : ∀ q ∈ P, Nts W1 q.2 q.1.bars) (cs : List Value) (hcap2 : cap ≤ 9223372036854775807) :
  ChR (W.setCells g (i * 5) cs) (.slice (some ⟨g, 0, none⟩) i cap) ((P.map (·.1)).filter fun c => !p c) ∧ Below W1.heap.size W1 (W.setCells g (i * 5) cs) := by
 have hlt := h.lt
 obtain ⟨A, M, h1, h2, h3, h4, h5, h6⟩ := h.parts
 have hbel := below_setCellsT g hlt.2.2 cs (i * 5) h.below
 refine ⟨?_, hbel⟩
 rw [← List.take_length (l := P.map (·.1)), List.length_map, ← h2]
 obtain ⟨cur, k1, k2, k3, -, k5, -⟩ := own_bk h6
 subst h1
 refine ChR.of_range ?_ (by omega) hcap2 (fun q hq => (hin q (h5 q (List.mem_append_left _ hq))).below hbel)
 refine World.rangeAt_setCells_apart ?_ _ _ _ (.inr (.inl (by rw [chCells_length]; omega)))
 intro q u hu
 have hq := (List.getElem?_eq_some_iff.1 hu).1
 rw [chCells_length] at hq
 have hb : q < P.length * 5 := by omega
 rw [Nat.zero_add, k1.cell q, ← Array.getElem?_toList, ← List.getElem?_take_of_lt hb, k3, chCells_app, chCells_app, List.append_assoc, List.getElem?_append_left (by rw [chCells_length]; omega)]
 exact hu
theorem deleteCh_c (F : Nat) (hE : Enters F) (caps : Array Value) (p : Ch → Bool) (L : List Ch) (v : Value) (W1 w : World) (h : ChO W1 w v L) (hL : L.length ≤ 100000)
  (hf : ∀ c a n cp W, c ∈ L → Below W1.heap.size W1 W → Calls Tryz.prog F (#[.agg #[.slice a n cp, .int .i64 c.lo, .int .i64 c.hi, .bool c.is, .int .i64 c.area]] ++ caps) W (Ret W (.bool (p c)))) :
  Calls Tryz.prog 59 #[v, .func (.func F) #[] caps] w (fun e W => ∃ v', e = .returned v' ∧ ChR W v' (L.filter fun c => !p c) ∧ Below W1.heap.size W1 W) := by
 have hr := h.read
 have hi := indexFunc_ch F hE caps p L v w hr (fun c a n cp x hc => hf c a n cp (ext w x) hc (grow_ext x h.below))
 have HF := hd0 hf
 have HB := hd0 h.below
 obtain ⟨P, hP, hrow, hin⟩ := h.row
 cases hix : L.findIdx? p with
 | none =>
   have hall : (L.filter fun c => !p c) = L := List.filter_eq_self.2 (fun c hc => by have := List.findIdx?_eq_none_iff.1 hix c hc; simp [this])
   rw [hall]
   rw [hix] at hi
   simp only [Option.map_none, Option.getD_none] at hi
   obtain ⟨a, cap, rfl, -, -, -⟩ := hr.shape
   have HR := hd0 hr
   have HI := hd0 hi
   clear h hf hP hrow hin hix hall hr HF hi
   go_enter Tryz.func59, Tryz.ntmps59
   go_wp2_with fail
   go_at_call 111; refine (HI.out).mono ?_; rintro e w' ⟨rfl, x1, rfl⟩
   go_wp2
   go_ret
   exact ⟨_, rfl, HR.out.below gro, grob HB.out⟩
 | some i0 =>
   rw [hix] at hi
   simp only [Option.map_some, Option.getD_some] at hi
   obtain ⟨hi0, hp0, hn0⟩ := List.findIdx?_eq_some_iff_getElem.1 hix
   have hlen : P.length = L.length := by rw [← hP, List.length_map]
   rw [← hlen] at hrow
   obtain ⟨a, cap, rfl, q1, q2, q3⟩ := own_shape hrow
   obtain ⟨g, rfl, -, -⟩ := q3 (by omega)
   have hD0 : DlJ W1 P p g cap (i0 + 1) i0 w := by
    refine ⟨h.below, P.take i0, [P[i0]'(by omega)], by rw [List.length_take]; omega, ?_, by simp, by simp; omega, fun q hq => ?_, ?_⟩
    ·rw [List.map_take, hP, List.take_succ_eq_append_getElem hi0, List.filter_append]
     rw [List.filter_eq_self.2 (fun c hc => by
      obtain ⟨j, hj, rfl⟩ := List.getElem_of_mem hc
      have hj' : j < i0 := by rw [List.length_take] at hj; omega
      have := hn0 j hj'
      rw [List.getElem_take]
      simpa using this)]
     simp [hp0]
    ·rcases List.mem_append.1 hq with hq | hq
     ·exact List.mem_of_mem_take hq
     ·obtain rfl := List.mem_singleton.1 hq
      exact List.getElem_mem _
    ·have e : P.take i0 ++ [P[i0]'(by omega)] ++ P.drop (i0 + 1) = P := by simp
     rw [e]
     exact hrow
   have HD0 := hd0 hD0
   have HIN := hd0 hin
   have HP := hd0 hP
   have hcap : cap ≤ 9223372036854775807 := q2
   have i1 : (0 : Int) ≤ (i0 : Int) := by omega
   have i2 : ((i0 : Int) == -1) = false := by simp
   have hn : (P.length : Int) ≤ 100000 := by omega
   have i3 : (i0 : Int) ≤ 100000 := by omega
   have HPL := hd0 hlen
   have HI := hd0 hi
   clear hi hlen h hf hP hrow hin hix hr hD0 hi0 hp0 hn0 q1 q2 q3 hL
   go_enter Tryz.func59, Tryz.ntmps59
   go_wp2_with fail
   go_at_call 111; refine (HI.out).mono ?_; rintro e w' ⟨rfl, x1, rfl⟩
   go_wp2_with fail
   go_loopw [6, 5] (fun j i wr => ∃ (m k : Nat), m ≤ P.length ∧ j = .int .i64 m ∧ i = .int .i64 k ∧ DlJ W1 P p g cap m k wr) (fun j _ _ => P.length - (intOf j).toNat)
   case atStart => exact ⟨i0 + 1, i0, by have := HPL.out; have := HD0.out.lt; have := HD0.out.parts; obtain ⟨A, M, h1, -, -, h4, -, h6⟩ := this; have := h6.1; rw [chCells_length] at this; simp at this; omega, by go_num, rfl, HD0.out.grows gro⟩
   case round =>
    obtain ⟨W3, rfl⟩ : ∃ W : World, W = wr := ⟨_, rfl⟩
    clear HD0 i1 i2 i3
    obtain ⟨m, k, hm, rfl, rfl, hD⟩ := hrel
    have HD := hd0 hD
    obtain ⟨l1, l2, l3⟩ := hD.lt
    by_cases hlt : m < P.length
    ·have hc := hD.cells hlt
     obtain ⟨ua, uc, eu, -, -, -⟩ := (HIN.out _ (List.getElem_mem hlt)).shape
     have HC := hd0 (fun a n cp W hb => HF.out (P[m]).1 a n cp W (by rw [← HP.out]; exact List.mem_map.2 ⟨_, List.getElem_mem hlt, rfl⟩) hb)
     have HKE := hd0 (fun W (h : DlJ W1 P p g cap m k W) hp => h.keep hlt hp)
     have HSK := hd0 (fun W (h : DlJ W1 P p g cap m k W) hp => h.skip hlt hp)
     obtain ⟨q, hq⟩ : ∃ q, P[m] = q := ⟨_, rfl⟩
     have HQ := hd0 hq
     rw [hq] at hc eu HC HKE
     obtain ⟨⟨bars, lo, hi, is, area⟩, u⟩ := q
     simp only at eu
     subst eu
     generalize bars.length = nb at *
     obtain ⟨c0, c1, c2, c3, c4⟩ := hc
     simp only at c0 c1 c2 c3 c4
     have i1 : (0 : Int) ≤ (m : Int) := by omega
     have i2 : (m : Int) < (P.length : Int) := by omega
     have i3 : (0 : Int) ≤ (k : Int) := by omega
     have i4 : (k : Int) < (P.length : Int) := by omega
     have HL := hd0 (And.intro l1 (And.intro l2 l3))
     clear hD hq l1 l2 l3
     go_upto_region 8 with fail
     refine world_mask (fun W => Below W3.heap.size W3 W ∧ Blk W W3.heap.size #[.slice ua nb uc, .int .i64 lo, .int .i64 hi, .bool is, .int .i64 area] 79) _ ⟨gro, Blk.new _ _ _⟩ ?_
     clear c0 c1 c2 c3 c4
     rintro W4 ⟨hb4, K4⟩
     have HB4 := hd0 hb4
     have HK4 := hd0 K4
     have HD4 := hd0 (HD.out.grows hb4)
     clear hb4 K4
     have HTH := hd0 (fun y => show (ext W4 y).there g (k * 5) 5 from fun q hq => by
      have := (HD4.out.grows (below_ext W4 y)).there (k * 5 + q) (by omega)
      rwa [Nat.zero_add] at this)
     cases hp : p ⟨bars, lo, hi, is, area⟩
     ·rw [hp] at HC
      have HPP := hd0 hp
      clear hp
      go_upto_region 9 with (first | (refine wpList_load_row rfl _ _ rfl _ rfl _ _ _ _ HK4.out rfl rfl rfl ?_) | (rw [show ∀ (a : Array Value) (w : World), (callFunc F a).run Tryz.prog w = .ok (.enter F a) w from hE, Oper.upon_enter]; refine (HC.out _ _ _ _ HD4.out.below).mono ?_; rintro e w' ⟨rfl, y, rfl⟩))
      have HK5 := hd0 (HK4.out.ext y)
      have HT5 := hd0 (HTH.out y)
      have HD5 := hd0 (HD4.out.grows (below_ext W4 y))
      clear HK4 HTH HD4 HB4
      generalize ext W4 y = W5 at *
      go_upto_region 10 with (first | (refine wpList_load_row rfl _ _ rfl _ rfl _ _ _ _ HK5.out rfl rfl rfl ?_) | (refine wpList_store_mid rfl _ _ _ rfl g (k * 5) #[.slice ua nb uc, .int .i64 lo, .int .i64 hi, .bool is, .int .i64 area] rfl rfl HT5.out rfl (by simp [Value.oneCell']) ?_))
      refine world_mask (fun W' => W' = set5 W5 g (k * 5) (⟨bars, lo, hi, is, area⟩, .slice ua nb uc)) _ rfl ?_
      rintro W6 hw6
      have HW6 := hd0 hw6
      clear hw6
      go_wp2_with fail
      go_roundw
      case rel => exact ⟨m + 1, k + 1, by omega, by go_num, by go_num, by rw [HW6.out]; exact HKE.out _ HD5.out HPP.out⟩
      case measure => simp [intOf]; omega
     ·rw [hp] at HC
      have HPP := hd0 hp
      clear hp
      go_wp2_with (first | (refine wpList_load_row rfl _ _ rfl _ rfl _ _ _ _ HK4.out rfl rfl rfl ?_) | (rw [show ∀ (a : Array Value) (w : World), (callFunc F a).run Tryz.prog w = .ok (.enter F a) w from hE, Oper.upon_enter]; refine (HC.out _ _ _ _ HD4.out.below).mono ?_; rintro e w' ⟨rfl, y, rfl⟩))
      go_roundw
      case rel => exact ⟨m + 1, k, by omega, by go_num, rfl, HSK.out _ (HD4.out.grows (below_ext W4 y)) (by rw [HQ.out]; exact HPP.out)⟩
      case measure => simp [intOf]; omega
    ·obtain rfl : m = P.length := by omega
     have hth := hD.there
     have HDN := hd0 (fun cs => hD.done HIN.out cs hcap)
     have HCP := hd0 (show P.length ≤ cap by obtain ⟨A, M, -, -, -, -, -, h6⟩ := hD.parts; obtain ⟨cur, -, -, -, -, h5, -⟩ := own_bk h6; exact h5)
     have hcl : ∀ ty, (Builtin.clear_ #[74] ty #[.slice (some ⟨g, k * 5, none⟩) (P.length - k) (cap - k)]).run Tryz.prog W3 = .ok (.tuple #[]) (W3.setCells g (k * 5) (Builtin.zeroCells (.agg #[.slice none 0 0, .int .i64 0, .int .i64 0, .bool false, .int .i64 0] : Value).cells (P.length - k)).toList) := fun ty =>
      run_clear_cellsT W3 _ _ ty _ (P.length - k) Tryz.underlying74 Tryz.zeroValue79 _ (by omega) rfl (zeroChs _) g (k * 5) _ (fun q hq => by
       rw [zeroChs_length] at hq
       have := hth (k * 5 + q) (by omega)
       rwa [Nat.zero_add] at this)
     have i3 : (0 : Int) ≤ (k : Int) := by omega
     have i4 : (k : Int) ≤ (P.length : Int) := by omega
     have i5 : (P.length : Int) ≤ (cap : Int) := by have := HCP.out; omega
     have i6 : cap ≠ k := by have := HCP.out; omega
     have i7 : k ≤ cap := by have := HCP.out; omega
     clear hD hth l1 l2 l3
     go_upto_region 12 with fail
     refine world_mask (fun W' => W' = W3.setCells g (k * 5) (Builtin.zeroCells (.agg #[.slice none 0 0, .int .i64 0, .int .i64 0, .bool false, .int .i64 0] : Value).cells (P.length - k)).toList) _ rfl ?_
     clear hcl
     rintro W6 hw6
     have HW6 := hd0 hw6
     clear hw6
     go_wp2
     go_ret
     rw [← HP.out, HW6.out]
     exact ⟨_, rfl, HDN.out _⟩
set_option maxHeartbeats 16000000
set_option maxRecDepth 100000

def RetOwn2 (w : World) (t : TypeId) (s n : Nat) (xs : List Value) (e : Ending) (W : World) : Prop := ∃ v, e = .returned (.tuple #[v, .int .i64 0]) ∧ W.ownsRow w.heap.size t s v n xs ∧ ∃ y, W = ext w y
theorem at1s_c (p : Int) (c : Ch) (a : Option Addr) (n cp g : Nat) (w : World) (hg : w.cell? ⟨g, 0, none⟩ = some (.int .i64 p)) :
  Calls Tryz.prog 60 #[.agg #[.slice a n cp, .int .i64 c.lo, .int .i64 c.hi, .bool c.is, .int .i64 c.area], .pointer (some ⟨g, 0, none⟩)] w (Ret w (.bool (decide (p < c.lo) || decide (c.hi ≤ p)))) := by
 obtain ⟨bars, lo, hi, is, area⟩ := c
 simp only
 cases h1 : decide (p < lo)
 ·cases h2 : decide (hi ≤ p)
  all_goals
   go_enter Tryz.func60, Tryz.ntmps60
   go_wp2
   go_ret
   exact Ret.of gro
 ·go_enter Tryz.func60, Tryz.ntmps60
  go_wp2
  go_ret
  exact Ret.of gro
theorem enters_at1s : Enters 60 := enters_of Tryz.func60 (by decide) (by simp [Tryz.f60])
theorem supat_c (x : Dt) (hv : DtV x) (d : Nat) (hd : d < x.dm.length) (p : Int) (hp : -1048576 ≤ p ∧ p ≤ 1048576) (w : World) (h : DtAt w x) :
  Calls Tryz.prog 23 #[(.agg #[.string x.q.name, x.q.u, x.q.t, .int .i64 x.q.cover, .int .i64 x.q.agg, .int .i64 x.q.poker, x.lv, x.rv, x.pv, x.dv, .int .i64 x.ru.num, .int .i64 x.ru.den, .int .i64 x.ru.pn, .int .i64 x.ru.pd, .int .i64 x.ru.bn, .int .i64 x.ru.bd, .int .i64 x.ru.ln, .int .i64 x.ru.ld, .int .i64 x.ru.least]), .int .i64 d, .int .i64 p] w (fun e W => ∃ u v, e = .returned (.tuple #[u, v, .int .i64 0]) ∧ Below w.heap.size w W ∧ RodsR W u (rodsI x) ∧ ChR W v (supAt x x.dm[d] p)) := by
 have HX := hd0 h
 have HSU := hd0 (fun w h => suppliers_c x hv d hd w h)
 have hln : (supI x x.dm[d]).length ≤ 100000 := by
  have h1 := supI_len x x.dm[d]
  have h2 := (count_le hv.laid 0).2.2
  omega
 have hes : supAt x x.dm[d] p = (supI x x.dm[d]).filter (fun c => !(decide (p < c.lo) || decide (c.hi ≤ p))) := rfl
 have HES := hd0 hes
 have d1 : decide (p < -1048576) = false := by simp; omega
 have d2 : decide (1048576 < p) = false := by simp; omega
 generalize supAt x x.dm[d] p = S' at *
 generalize supI x x.dm[d] = S at *
 clear h hv hp hes
 go_enter Tryz.func23, Tryz.ntmps23
 go_upto_region 1 with fail
 refine world_mask (fun W => Below w.heap.size w W ∧ Blk W w.heap.size (dtC x) 34 ∧ Blk W (w.heap.size + 1) #[.int .i64 p] 3) _ ⟨gro, (Blk.new _ _ _).alloc _, Blk.new' (by simp only [World.size_alloc]) _ _⟩ ?_
 rintro W2 ⟨hb2, K2, K3⟩
 have HB2 := hd0 hb2
 have HK2 := hd0 K2
 have HK3 := hd0 K3
 clear hb2 K2 K3
 go_upto_region 2 with (first | (refine wpList_load_row rfl _ _ rfl _ rfl _ (dtC x) _ _ HK2.out rfl rfl rfl ?_) | (go_at_call 58; refine (HSU.out _ (HX.out.below HB2.out)).mono ?_; rintro e w' ⟨rv, lv, Wc, rfl, hbc, hrc, hch⟩; obtain ⟨ra, rc, erv, -⟩ := hrc.shape; subst erv; obtain ⟨la, lc, elv⟩ := hch.shape; subst elv; have HBC := hd0 hbc; have HRC := hd0 hrc; have HCH := hd0 hch; have HB3 := hd0 (hbc.trans (Below.mono hch.below hbc.size)); have c0 := (HK3.out.below HB3.out).cell 0; clear hbc hrc hch))
 go_wp2_with (go_at_call 59; refine (deleteCh_c _ enters_at1s #[.pointer (some ⟨w.heap.size + 1, 0, none⟩)] (fun c => decide (p < c.lo) || decide (c.hi ≤ p)) S _ Wc _ HCH.out hln (fun c a n cp W _ hbW => at1s_c p c a n cp _ W (((HK3.out.below HBC.out).below hbW).cell 0))).mono ?_; rintro e w3 ⟨v3, rfl, hcr, hb3⟩; obtain ⟨a3, c3, ev3, -⟩ := hcr.shape; subst ev3; have HCR := hd0 hcr; have HB5 := hd0 hb3; clear hcr hb3)
 refine bodyPost_ret (v := .tuple #[.slice ra (rodsI x).length rc, .slice a3 (S.filter (fun c => !(decide (p < c.lo) || decide (c.hi ≤ p)))).length c3, .int .i64 0]) (by simp [results, Tryz.results23, go_sem]) rfl ?_
 exact ⟨_, _, rfl, HB2.out.trans (Below.mono (HBC.out.trans (Below.mono HB5.out HBC.out.size)) HB2.out.size), HRC.out.below HB5.out, by rw [HES.out]; exact HCR.out⟩
theorem supAt_c (x : Dt) (hv : DtV x) (d : Nat) (hd : d < x.dm.length) (p : Int) (hp : -1048576 ≤ p ∧ p ≤ 1048576) (w : World) (h : DtAt w x) :
  Calls Tryz.prog 7 #[(.agg #[.string x.q.name, x.q.u, x.q.t, .int .i64 x.q.cover, .int .i64 x.q.agg, .int .i64 x.q.poker, x.lv, x.rv, x.pv, x.dv, .int .i64 x.ru.num, .int .i64 x.ru.den, .int .i64 x.ru.pn, .int .i64 x.ru.pd, .int .i64 x.ru.bn, .int .i64 x.ru.bd, .int .i64 x.ru.ln, .int .i64 x.ru.ld, .int .i64 x.ru.least]), .int .i64 d, .int .i64 p] w (Ret w (.tuple #[.int .i64 (valueI (supI x x.dm[d]) p), .int .i64 0])) := by
 have HX := hd0 h
 have HAT := hd0 (fun w h => supat_c x hv d hd p hp w h)
 have hmem : ∀ c ∈ supAt x x.dm[d] p, ChOk x c := fun c hc => (supI_ok x hv x.dm[d] c (List.mem_filter.1 hc).1).1
 have hln : (supAt x x.dm[d] p).length ≤ 100000 := by
  have h0 : (supAt x x.dm[d] p).length ≤ (supI x x.dm[d]).length := List.length_filter_le _ _
  have h1 := supI_len x x.dm[d]
  have h2 := (count_le hv.laid 0).2.2
  omega
 have HVL := hd0 (fun v w (hlc : ChR w v (supAt x (x.dm[d]'hd) p)) => value_c (supAt x (x.dm[d]'hd) p) v p (fun c hc => by have := (hmem c hc).area; omega) hln w hlc)
 rw [← supAt_value]
 generalize supAt x x.dm[d] p = S at *
 clear h hv hmem
 go_enter Tryz.func7, Tryz.ntmps7
 go_upto_region 1 with fail
 refine world_mask (fun W => Below w.heap.size w W ∧ Blk W w.heap.size (dtC x) 34) _ ⟨gro, Blk.new _ _ _⟩ ?_
 rintro W2 ⟨hb2, K2⟩
 have HB2 := hd0 hb2
 have HK2 := hd0 K2
 clear hb2 K2
 go_upto_region 4 with (first | (refine wpList_load_row rfl _ _ rfl _ rfl _ (dtC x) _ _ HK2.out rfl rfl rfl ?_) | (go_at_call 23; refine (HAT.out _ (HX.out.below HB2.out)).mono ?_; rintro e w' ⟨rv, lv, rfl, hbc, hrc, hcr⟩; obtain ⟨ra, rc, erv, -⟩ := hrc.shape; subst erv; obtain ⟨la, lc, elv, -⟩ := hcr.shape; subst elv; have HBC := hd0 hbc; have HCR := hd0 hcr; clear hbc hrc hcr))
 go_wp2_with (go_at_call 24; refine (HVL.out _ _ HCR.out).mono ?_; rintro e w' ⟨rfl, y1, rfl⟩)
 generalize valueI S p = n at *
 go_ret2
 exact Ret.of (grow_ext _ (HB2.out.trans (Below.mono HBC.out HB2.out.size)))
theorem barsF_snoc (x : Dt) (p : Int) (l : List Ch) (c : Ch) : barsF x p (l ++ [c]) = barsF x p l ++ c.bars.filter (overB x p) := by unfold barsF; rw [List.flatMap_append]; simp
theorem filterI_snoc (q : Int → Bool) (l : List Int) (c : Int) : (l ++ [c]).filter q = l.filter q ++ (if q c = true then [c] else []) := by
 rw [List.filter_append]
 cases h : q c <;> simp [h]
theorem barsF_len (x : Dt) (p : Int) (m : Nat) : ∀ (l : List Ch), (∀ c ∈ l, c.bars.length ≤ m) → (barsF x p l).length ≤ l.length * m := by
 intro l
 induction l with
 | nil => intro _; exact Nat.zero_le _
 | cons c l ih =>
   intro h
   have e : barsF x p (c :: l) = c.bars.filter (overB x p) ++ barsF x p l := rfl
   have h1 := ih (fun d hd => h d (List.mem_cons_of_mem _ hd))
   have h2 := h c List.mem_cons_self
   have h3 : (c.bars.filter (overB x p)).length ≤ c.bars.length := List.length_filter_le _ _
   rw [e, List.length_append, List.length_cons, Nat.succ_mul]
   omega
theorem supBars_c (x : Dt) (hv : DtV x) (d : Nat) (hd : d < x.dm.length) (p : Int) (hp : -1048576 ≤ p ∧ p ≤ 1048576) (w : World) (h : DtAt w x) :
  Calls Tryz.prog 8 #[(.agg #[.string x.q.name, x.q.u, x.q.t, .int .i64 x.q.cover, .int .i64 x.q.agg, .int .i64 x.q.poker, x.lv, x.rv, x.pv, x.dv, .int .i64 x.ru.num, .int .i64 x.ru.den, .int .i64 x.ru.pn, .int .i64 x.ru.pd, .int .i64 x.ru.bn, .int .i64 x.ru.bd, .int .i64 x.ru.ln, .int .i64 x.ru.ld, .int .i64 x.ru.least]), .int .i64 d, .int .i64 p] w (RetOwn2 w 3 1 (sorted (barsF x p (supAt x x.dm[d] p))).length ((sorted (barsF x p (supAt x x.dm[d] p))).map (Value.int .i64))) := by
 have HX := hd0 h
 have HAT := hd0 (fun w h => supat_c x hv d hd p hp w h)
 have hmem : ∀ c ∈ supAt x x.dm[d] p, ChOk x c ∧ ∀ j ∈ c.bars, ∃ g, mainI x.l x.rs j = some g := fun c hc => by
  obtain ⟨h1, -, -, h2⟩ := supI_ok x hv x.dm[d] c (List.mem_filter.1 hc).1
  exact ⟨h1, fun j hj => let ⟨g, e, _⟩ := h2 j hj; ⟨g, e⟩⟩
 have hln : (supAt x x.dm[d] p).length ≤ 2000 := by
  have h0 : (supAt x x.dm[d] p).length ≤ (supI x x.dm[d]).length := List.length_filter_le _ _
  have h1 := supI_len x x.dm[d]
  have h2 := (count_le hv.laid 0).2.2
  omega
 have HBL := hd0 (fun k => barsF_len x p 2097155 ((supAt x x.dm[d] p).take k) (fun c hc => (hmem c (List.mem_of_mem_take hc)).1.chn.len))
 have HRO := hd0 (fun i h0 h1 => rodOk x hv (i := i) h0 h1 w h)
 have HV := hd0 hv
 generalize supAt x x.dm[d] p = S at *
 have HME := hd0 hmem
 clear h hv hmem
 go_enter Tryz.func8, Tryz.ntmps8
 go_upto_region 1 with fail
 refine world_mask (fun W => Below w.heap.size w W ∧ Blk W w.heap.size (dtC x) 34) _ ⟨gro, Blk.new _ _ _⟩ ?_
 rintro W2 ⟨hb2, K2⟩
 have HB2 := hd0 hb2
 have HK2 := hd0 K2
 clear hb2 K2
 go_upto_region 5 with (first | (refine wpList_load_row rfl _ _ rfl _ rfl _ (dtC x) _ _ HK2.out rfl rfl rfl ?_) | (go_at_call 23; refine (HAT.out _ (HX.out.below HB2.out)).mono ?_; rintro e w' ⟨rv, lv, rfl, hbc, hrc, hcr⟩; obtain ⟨ra, rc, erv, -⟩ := hrc.shape; subst erv; obtain ⟨la, lc, elv, -⟩ := hcr.shape; subst elv; have HBC := hd0 hbc; have HCR := hd0 hcr; have HRC := hd0 hrc; clear hbc hrc hcr))
 refine world_mask (fun W => Below w.heap.size w W ∧ ChR W (.slice la S.length lc) S ∧ RodsR W (.slice ra (rodsI x).length rc) (rodsI x)) _ ⟨HB2.out.trans (Below.mono HBC.out HB2.out.size), HCR.out, HRC.out⟩ ?_
 clear HB2 HK2 HBC HCR HRC
 rintro W1 ⟨hb1, R1, D1⟩
 have HB1 := hd0 hb1
 obtain ⟨la', lc', ela, -, -, n4⟩ := R1
 cases ela
 have HN4 := hd0 n4
 obtain ⟨ra', rc', era, -, -, r4⟩ := D1
 cases era
 have HR4 := hd0 r4
 clear hb1 n4 r4
 go_wp2_with fail
 go_loopw [30, 11] (fun i v wr => ∃ k : Nat, k ≤ S.length ∧ i = .int .i64 k ∧ Below W1.heap.size W1 wr ∧ wr.ownsRow W1.heap.size 3 1 v (barsF x p (S.take k)).length ((barsF x p (S.take k)).map (Value.int .i64))) (fun i _ _ => S.length - (intOf i).toNat)
 case atStart => exact ⟨0, Nat.zero_le _, rfl, Below.refl _ _, World.ownsRow_nil _ _ _ _⟩
 case round =>
  obtain ⟨W3, rfl⟩ : ∃ W : World, W = wr := ⟨_, rfl⟩
  obtain ⟨k, hk, rfl, hb3, hrow⟩ := hrel
  have HB3 := hd0 hb3
  by_cases hlt : k < S.length
  ·obtain ⟨bl, ol, u, ela, hca, hu⟩ := HN4.out k hlt
   subst ela
   have HT := hd0 (show barsF x p (S.take (k + 1)) = barsF x p (S.take k) ++ (S[k]'hlt).bars.filter (overB x p) by rw [List.take_succ_eq_append_getElem hlt, barsF_snoc])
   have hbl := HBL.out k
   have hbl2 : (S.take k).length ≤ 2000 := by rw [List.length_take]; omega
   obtain ⟨hco, hmg⟩ := HME.out _ (List.getElem_mem hlt)
   have HCO := hd0 hco.chn
   have HMG := hd0 hmg
   generalize S[k] = C at *
   obtain ⟨bars, lo, hi, is, area⟩ := C
   simp only at HCO HMG hu HT
   obtain ⟨ab, cb, eu, -, -, hu4⟩ := hu.shape
   subst eu
   have HU4 := hd0 hu4
   have HPL := hd0 (show (barsF x p (S.take k)).length ≤ 4194310000 from Nat.le_trans hbl (Nat.le_trans (Nat.mul_le_mul_right 2097155 hbl2) (by decide)))
   generalize barsF x p (S.take k) = R at *
   obtain ⟨c0, c1, c2, c3, c4⟩ := hca.below hb3
   simp only at c0 c1 c2 c3 c4
   have i1 : (0 : Int) ≤ (k : Int) := by omega
   have i2 : (k : Int) < (S.length : Int) := by omega
   have HROW := hd0 hrow
   have hbarl := HCO.out.len
   clear hca hu hu4 hb3 hrow hbl hbl2 hco hmg
   go_upto_region 8 with fail
   refine world_mask (fun W => Below W3.heap.size W3 W ∧ Blk W W3.heap.size #[.slice ab bars.length cb, .int .i64 lo, .int .i64 hi, .bool is, .int .i64 area] 79) _ ⟨gro, Blk.new _ _ _⟩ ?_
   clear c0 c1 c2 c3 c4
   rintro W4 ⟨hb4, K4⟩
   have HB4 := hd0 (HB3.out.trans (Below.mono hb4 HB3.out.size))
   have HRW4 := hd0 (own_grows HROW.out hb4)
   have c0 := K4.cell 0
   clear hb4 K4 HROW
   go_wp2_with fail
   go_loopw [37, 11] (fun i v wr => ∃ m : Nat, m ≤ bars.length ∧ i = .int .i64 m ∧ Below W1.heap.size W1 wr ∧ wr.ownsRow W1.heap.size 3 1 v (R ++ (bars.take m).filter (overB x p)).length ((R ++ (bars.take m).filter (overB x p)).map (Value.int .i64))) (fun i _ _ => bars.length - (intOf i).toNat)
   case atStart => exact ⟨0, Nat.zero_le _, rfl, HB4.out, by simpa using HRW4.out⟩
   case round =>
    obtain ⟨W5, rfl⟩ : ∃ W : World, W = wr := ⟨_, rfl⟩
    clear c0 HRW4 HB4
    obtain ⟨m, hm, rfl, hb5, hrow⟩ := hrel
    have HB5 := hd0 hb5
    by_cases hmt : m < bars.length
    ·obtain ⟨bb, ob, eab, hcb⟩ := HU4.out m hmt
     subst eab
     have hfl : ((bars.take m).filter (overB x p)).length ≤ 2097155 := Nat.le_trans (List.length_filter_le _ _) (by rw [List.length_take]; omega)
     have HF := hd0 (show (bars.take (m + 1)).filter (overB x p) = (bars.take m).filter (overB x p) ++ (if overB x p (bars[m]'hmt) = true then [bars[m]'hmt] else []) by rw [List.take_succ_eq_append_getElem hmt, filterI_snoc])
     obtain ⟨j0, j1⟩ := HCO.out.one _ (List.getElem_mem hmt)
     obtain ⟨g, hg⟩ := HMG.out _ (List.getElem_mem hmt)
     have hro := HRO.out _ j0 j1
     obtain ⟨kj, hkj, ekj, erd⟩ := rodsI_get x j0 j1
     generalize bars[m] = j at *
     subst ekj
     obtain ⟨br, orr, ur, era, hcs, hls⟩ := HR4.out kj hkj
     subst era
     rw [erd] at hcs hls
     have HOV := hd0 (show overB x p (kj : Int) = (decide (g.lx ≤ p) && decide (p ≤ g.hx)) by unfold overB; rw [hg])
     generalize rodI x.l x.rs (kj : Int) = Rd at *
     obtain ⟨⟨bm, bs, bc, bk, bdims, bv⟩, lg, mn⟩ := Rd
     obtain ⟨-, -, ⟨ad, dl, dc', ebv⟩, hsome, -⟩ := hro
     obtain ⟨al, lc2, eul, -, -, -⟩ := hls.shape
     simp only at ebv hsome eul hls
     subst ebv
     subst eul
     obtain ⟨q, hq, el, em, -⟩ := hsome g hg
     have HLEG := hd0 (fun (W : World) hu => rodLeg_c ⟨⟨bm, bs, bc, bk, bdims, .slice ad dl dc'⟩, lg, mn⟩ (.slice al lg.length lc2) q hq em ⟨_, _, _, rfl⟩ W hu)
     simp only [el] at HLEG
     obtain ⟨c0, c1, c2, c3, c4, c5, c6⟩ := hcs.below hb5
     simp only at c0 c1 c2 c3 c4 c5 c6
     have e0 := cell_below' hcb hb5
     have HLS := hd0 (hls.below hb5)
     have hll : (R ++ (bars.take m).filter (overB x p)).length ≤ 4196407155 := by rw [List.length_append]; have := HPL.out; omega
     have HLL := hd0 hll
     have HF2 := hd0 (show R ++ (bars.take (m + 1)).filter (overB x p) = (R ++ (bars.take m).filter (overB x p)) ++ (if overB x p (kj : Int) = true then [(kj : Int)] else []) by rw [HF.out, List.append_assoc])
     rw [HOV.out] at HF2
     generalize R ++ (bars.take m).filter (overB x p) = Q at *
     obtain ⟨av, cv, rfl, -, hcv, -⟩ := own_shape hrow
     have hcv3 : cv ≤ 9223372036854775807 := hcv
     have HROW := hd0 hrow
     have b1 : (0 : Int) ≤ (m : Int) := by omega
     have b2 : (m : Int) < (bars.length : Int) := by omega
     have b3 : (0 : Int) ≤ (kj : Int) := by omega
     have b4 : (kj : Int) < ((rodsI x).length : Int) := by omega
     have hg11 : W1.heap.size ≤ W5.heap.size := hb5.size
     clear hrow hcv hcs hls hcb hsome hg el em hq hb5 HF HOV hfl hll erd
     go_upto_region 12 with (go_at_call 25; refine (HLEG.out _ HLS.out).mono ?_; rintro e w' ⟨rfl, x3, rfl⟩)
     refine world_mask (fun W => Below W5.heap.size W5 W ∧ Blk W (W5.heap.size + x3.heap.size) #[.int .i64 g.lx, .int .i64 g.ly, .int .i64 g.lz, .int .i64 g.hx, .int .i64 g.hy, .int .i64 g.hz] 40) _ ⟨gro, Blk.new' (by simp only [size_ext]) _ _⟩ ?_
     clear c0 c1 c2 c3 c4 c5 c6 e0
     generalize W5.heap.size + x3.heap.size = g16
     rintro W6 ⟨hb6, K6⟩
     have HB6 := hd0 (HB5.out.trans (Below.mono hb6 HB5.out.size))
     have HRW6 := hd0 (own_grows HROW.out hb6)
     have hsz6 := hb6.size
     have c0 := K6.cell 0
     have c3 := K6.cell 3
     clear hb6 K6
     cases h1 : decide (g.lx ≤ p)
     ·rw [h1] at HF2
      go_wp2_with fail
      go_roundw
      case rel => exact ⟨m + 1, by omega, by go_num, HB6.out, by rw [HF2.out]; simp only [Bool.false_and, Bool.false_eq_true, if_false, List.append_nil]; exact HRW6.out⟩
      case measure => simp [intOf]; omega
     ·cases h2 : decide (p ≤ g.hx)
      ·rw [h1, h2] at HF2
       go_wp2_with fail
       go_roundw
       case rel => exact ⟨m + 1, by omega, by go_num, HB6.out, by rw [HF2.out]; simp only [Bool.and_false, Bool.false_eq_true, if_false, List.append_nil]; exact HRW6.out⟩
       case measure => simp [intOf]; omega
      ·rw [h1, h2] at HF2
       go_wp2_with (at_builtin; refine app_own_b rfl _ _ 48 rfl 3 (.int .i64 0) 1 8 Tryz.underlying48 info_int rfl (by decide) W1.heap.size (.slice av Q.length cv) Q.length (Q.map (Value.int .i64)) _ rfl (HRW6.out.alloc _) _ 1 1 [.int .i64 (kj : Int)] rfl rfl (cells_new ?_ _ _ _ rfl) (by simp [Value.oneCell']) (by have := HLL.out; omega) (by decide) ?_ ?_; (first | rfl | simp [size_ext]); (simp only [World.size_alloc]; omega); intro v' w1 hown' hgrow; have HO2 := hd0 hown'; obtain ⟨a', c', rfl, _, hc2, -⟩ := own_shape hown'; have hc3 : c' ≤ 9223372036854775807 := hc2; have HGR := hd0 hgrow; clear hown' hgrow hc2)
       go_roundw
       case rel => exact ⟨m + 1, by omega, by go_num, (grow_alloc _ HB6.out).grown HGR.out (by simp only [World.size_alloc]; omega) (fun j e => (HROW.out.lt j e).1), by rw [HF2.out]; simp only [Bool.and_self, if_true, List.length_append, List.map_append]; exact HO2.out⟩
       case measure => simp [intOf]; omega
    ·obtain rfl : m = bars.length := by omega
     rw [List.take_length, ← HT.out] at hrow
     have HROW := hd0 hrow
     clear hrow hb5
     go_wp2
     go_roundw
     case rel => exact ⟨k + 1, by omega, by go_num, HB5.out, HROW.out⟩
     case measure => simp [intOf]; omega
  ·obtain rfl : k = S.length := by omega
   have hbl := HBL.out S.length
   rw [List.take_length] at hrow hbl
   have HPL := hd0 (show (barsF x p S).length < 4611686018427387904 from Nat.lt_of_le_of_lt (Nat.le_trans hbl (Nat.mul_le_mul_right 2097155 hln)) (by decide))
   generalize barsF x p S = R at *
   obtain ⟨av, cv, rfl, -, hcv, -⟩ := own_shape hrow
   have HROW := hd0 hrow
   clear hrow hb3 hbl hcv
   go_wp2_with (go_at_call 26; refine (sort_own _ R _ HROW.out HPL.out).mono ?_; rintro e w' ⟨rfl, hown2, hg2⟩; have HO2 := hd0 hown2; have HB6 := hd0 (HB3.out.grown hg2 HB3.out.size (own_row HROW.out)); clear hown2 hg2)
   go_ret2
   exact ⟨_, rfl, own_mono HO2.out HB1.out.size, ext_of (HB1.out.trans (Below.mono HB6.out HB1.out.size))⟩
end Go.Proofs.YtkjljneehgmmaaaGreat


/- TsK, InvK, InvG, TsL, TsQ in one text. -/
import Derived.Test.YtkjljneehgmmaaaGreatTsJ
import Derived.Test.YtkjljneehgmmaaaGreatAaK9
import Derived.Test.YtkjljneehgmmaaaGreatAaK1
import Derived.Test.YtkjljneehgmmaaaGreatAaK6
import Derived.Test.YtkjljneehgmmaaaGreatAaK7
import Derived.Test.YtkjljneehgmmaaaGreatLaidK4
import Derived.Test.YtkjljneehgmmaaaGreatCovK1
namespace Go.Proofs.YtkjljneehgmmaaaGreat
set_option linter.unusedVariables false
set_option linter.unusedSimpArgs false
open Go.RowKit
set_option maxRecDepth 20000

theorem flat_get {α : Type} (f : α → List Value) (c : Nat) (hf : ∀ a, (f a).length = c) (l : List α) (i : Nat) (h : i < l.length) (k : Nat) (hk : k < c) : (l.flatMap f)[i * c + k]? = (f l[i])[k]? := by
 induction l generalizing i with
 | nil => simp at h
 | cons a l ih =>
   rw [List.flatMap_cons]
   cases i with
   | zero => rw [Nat.zero_mul, Nat.zero_add, List.getElem?_append_left (by rw [hf]; exact hk)]; rfl
   | succ i =>
     rw [List.getElem?_append_right (by rw [hf, Nat.succ_mul]; omega), hf, show (i + 1) * c + k - c = i * c + k by rw [Nat.succ_mul]; omega]
     exact ih i (by simpa using h)
def MnAt (w : World) (b off : Nat) (m : Mn) : Prop :=
 w.cell? ⟨b, off, none⟩ = some (.int .i64 m.leg.lx) ∧ w.cell? ⟨b, off + 1, none⟩ = some (.int .i64 m.leg.ly) ∧ w.cell? ⟨b, off + 2, none⟩ = some (.int .i64 m.leg.lz) ∧ w.cell? ⟨b, off + 3, none⟩ = some (.int .i64 m.leg.hx) ∧ w.cell? ⟨b, off + 4, none⟩ = some (.int .i64 m.leg.hy) ∧
 w.cell? ⟨b, off + 5, none⟩ = some (.int .i64 m.leg.hz) ∧ w.cell? ⟨b, off + 6, none⟩ = some (.bool m.has) ∧ w.cell? ⟨b, off + 7, none⟩ = some (.int .i64 m.size) ∧ w.cell? ⟨b, off + 8, none⟩ = some (.string m.mark)
theorem MnAt.below {w W : World} {b off : Nat} {m : Mn} (h : MnAt w b off m) (hb : Below w.heap.size w W) : MnAt W b off m := by
 obtain ⟨y, rfl⟩ := ext_of hb
 obtain ⟨h0, h1, h2, h3, h4, h5, h6, h7, h8⟩ := h
 exact ⟨cell_ext_some h0 y, cell_ext_some h1 y, cell_ext_some h2 y, cell_ext_some h3 y, cell_ext_some h4 y, cell_ext_some h5 y, cell_ext_some h6 y, cell_ext_some h7 y, cell_ext_some h8 y⟩
def Mns (w : World) (v : Value) (l : List Mn) : Prop :=
 ∃ a cap, v = .slice a l.length cap ∧ l.length ≤ cap ∧ cap ≤ 9223372036854775807 ∧ ∀ i (h : i < l.length), ∃ b off, a = some ⟨b, off, none⟩ ∧ MnAt w b (off + i * 9) l[i]
theorem Mns.below {w W : World} {v : Value} {l : List Mn} (h : Mns w v l) (hb : Below w.heap.size w W) : Mns W v l := by
 obtain ⟨a, cap, h1, h2, h3, h4⟩ := h
 exact ⟨a, cap, h1, h2, h3, fun i hi => let ⟨b, off, e, hc⟩ := h4 i hi; ⟨b, off, e, hc.below hb⟩⟩
theorem Mns.shape {w : World} {v : Value} {l : List Mn} (h : Mns w v l) : ∃ a cap, v = .slice a l.length cap ∧ l.length ≤ cap ∧ cap ≤ 9223372036854775807 ∧ ∀ i (h : i < l.length), ∃ b off, a = some ⟨b, off, none⟩ ∧ MnAt w b (off + i * 9) l[i] := h
theorem Mns.of_own {w : World} {base n : Nat} {e : TypeId} {v : Value} {l : List Mn} (h : w.ownsRow base e 9 v n (mnCells l)) (hn : n = l.length) : Mns w v l := by
 subst hn
 obtain ⟨a, cap, rfl, h1, h2, h3⟩ := own_shape h
 unfold maxLen at h2
 refine ⟨a, cap, rfl, h1, by omega, fun i hi => ?_⟩
 obtain ⟨g, rfl, _, hc⟩ := h3 (by omega)
 have hg : ∀ k (hk : k < 9), w.cell? ⟨g, i * 9 + k, none⟩ = (mn1 l[i])[k]? := fun k hk => by
  rw [hc _ (by omega)]
  exact flat_get mn1 9 (fun _ => rfl) l i hi k hk
 refine ⟨g, 0, rfl, ?_⟩
 rw [Nat.zero_add]
 exact ⟨hg 0 (by decide), hg 1 (by decide), hg 2 (by decide), hg 3 (by decide), hg 4 (by decide), hg 5 (by decide), hg 6 (by decide), hg 7 (by decide), hg 8 (by decide)⟩
theorem mainsTo_length (l : List Br) (rs : List Rn) (n : Nat) : (mainsTo l rs n).length = n := by simp [mainsTo]
set_option maxRecDepth 100000 in
set_option maxHeartbeats 8000000 in
theorem joint_ok (L : List Mn) (v : Value) (i k : Nat) (a b : Bx) (hi : i < L.length) (hk : k < L.length) (ha : (L[i]).leg = a ∧ (L[i]).has = true) (hb : (L[k]).leg = b ∧ (L[k]).has = true) (h1 : a.lx < b.lx) (h2 : a.hx < b.hx) (h3 : b.lx ≤ a.hx) (w : World) (hl : Mns w v L) :
  Calls Tryz.prog 127 #[v, .agg #[.int .i64 (i : Int), .int .i64 (k : Int)]] w (Ret w (.bool true)) := by
 obtain ⟨av, cv, rfl, -, hcv, h4⟩ := hl.shape
 obtain ⟨bb, off, rfl, hA⟩ := h4 i hi
 obtain ⟨_, _, e', hB⟩ := h4 k hk
 cases e'
 have d1 : decide (a.lx < b.lx) = true := by simpa using h1
 have d2 : decide (a.hx < b.hx) = true := by simpa using h2
 have d3 : decide (b.lx ≤ a.hx) = true := by simpa using h3
 have q1 : (0 : Int) ≤ (i : Int) := by omega
 have q2 : (i : Int) < (L.length : Int) := by omega
 have q3 : (0 : Int) ≤ (k : Int) := by omega
 have q4 : (k : Int) < (L.length : Int) := by omega
 obtain ⟨ha1, ha2⟩ := ha
 obtain ⟨hb1, hb2⟩ := hb
 obtain ⟨a0, a1, a2, a3, a4, a5, a6, a7, a8⟩ := hA
 obtain ⟨b0, b1, b2, b3, b4, b5, b6, b7, b8⟩ := hB
 rw [ha1] at a0 a1 a2 a3 a4 a5
 rw [ha2] at a6
 rw [hb1] at b0 b1 b2 b3 b4 b5
 rw [hb2] at b6
 clear ha1 ha2 hb1 hb2 h1 h2 h3 hl h4
 generalize L[i] = x at *
 generalize L[k] = y at *
 generalize x.size = xs at *
 generalize x.mark = xm at *
 generalize y.size = ys at *
 generalize y.mark = ym at *
 go_enter Tryz.func127, Tryz.ntmps127
 go_upto_region 4 with fail
 refine world_mask (fun W => Below w.heap.size w W ∧ Blk W w.heap.size #[.int .i64 (i : Int), .int .i64 (k : Int)] 128) _ ⟨gro, Blk.new _ _ _⟩ ?_
 rintro W1 ⟨hb, hj⟩
 have HB1 := hd0 hb
 have j0 : W1.cell? ⟨w.heap.size, 0, none⟩ = some (.int .i64 (i : Int)) := hj.cell 0
 have j1 : W1.cell? ⟨w.heap.size, 1, none⟩ = some (.int .i64 (k : Int)) := hj.cell 1
 have a0 := cell_below' a0 hb
 have a1 := cell_below' a1 hb
 have a2 := cell_below' a2 hb
 have a3 := cell_below' a3 hb
 have a4 := cell_below' a4 hb
 have a5 := cell_below' a5 hb
 have a6 := cell_below' a6 hb
 have a7 := cell_below' a7 hb
 have a8 := cell_below' a8 hb
 have b0 := cell_below' b0 hb
 have b1 := cell_below' b1 hb
 have b2 := cell_below' b2 hb
 have b3 := cell_below' b3 hb
 have b4 := cell_below' b4 hb
 have b5 := cell_below' b5 hb
 have b6 := cell_below' b6 hb
 have b7 := cell_below' b7 hb
 have b8 := cell_below' b8 hb
 clear hb hj
 go_cut [6, 7] (fun s6 s7 wx => ∃ ga gb, s6 = .pointer (some ⟨ga, 0, none⟩) ∧ s7 = .pointer (some ⟨gb, 0, none⟩) ∧ Blk wx ga (mn1 ⟨a, true, xs, xm⟩).toArray 228 ∧ Blk wx gb (mn1 ⟨b, true, ys, ym⟩).toArray 228 ∧ Below W1.heap.size W1 wx)
 case first =>
  go_region
  all_goals
   go_wp2_with fail
   go_meet
   first
    | exact ⟨_, _, rfl, rfl, (Blk.new _ _ _).alloc _, Blk.new' (by simp only [World.size_alloc]) _ _, gro⟩
    | exact ⟨_, _, rfl, rfl, Blk.new' (by simp only [World.size_alloc]) _ _, (Blk.new _ _ _).alloc _, gro⟩
 case rest =>
  clear a0 a1 a2 a3 a4 a5 a6 a7 a8 b0 b1 b2 b3 b4 b5 b6 b7 b8 j0 j1
  obtain ⟨ga, gb, rfl, rfl, ha, hb, hbl⟩ := hcut
  obtain ⟨W2, rfl⟩ : ∃ W : World, W = wc := ⟨_, rfl⟩
  have a0 : W2.cell? ⟨ga, 0, none⟩ = some (.int .i64 a.lx) := ha.cell 0
  have a3 : W2.cell? ⟨ga, 3, none⟩ = some (.int .i64 a.hx) := ha.cell 3
  have a6 : W2.cell? ⟨ga, 6, none⟩ = some (.bool true) := ha.cell 6
  have b0 : W2.cell? ⟨gb, 0, none⟩ = some (.int .i64 b.lx) := hb.cell 0
  have b3 : W2.cell? ⟨gb, 3, none⟩ = some (.int .i64 b.hx) := hb.cell 3
  have b6 : W2.cell? ⟨gb, 6, none⟩ = some (.bool true) := hb.cell 6
  have HB2 := hd0 hbl
  clear ha hb hbl
  go_wp2
  go_ret
  exact Ret.of (HB1.out.trans (Below.mono HB2.out HB1.out.size))
end Go.Proofs.YtkjljneehgmmaaaGreat

namespace Go.Proofs.YtkjljneehgmmaaaGreat
set_option linter.unusedVariables false
set_option linter.unusedSimpArgs false
open Go Go.RowKit
set_option maxRecDepth 20000
section
variable {P : Program}

def putAll : List Oper → List Value → Act → Act
 | o :: l, v :: vs, a => putAll l vs (a.put o.dst v)
 | _, _, a => a
theorem putAll_cons (o : Oper) (l : List Oper) (v : Value) (vs : List Value) (a : Act) : putAll (o :: l) (v :: vs) a = putAll l vs (a.put o.dst v) := rfl
theorem putAll_nil (a : Act) : putAll [] [] a = a := rfl
theorem put_some (t : Array Value) (d : List Deferred) (k : Nat) (v : Value) : (Act.mk t d).put (some k) v = ⟨t.setIfInBounds k v, d⟩ := rfl
theorem put_none (a : Act) (v : Value) : a.put none v = a := rfl
def slotOf (a : Act) (o : Oper) : Value := match o.dst with | some d => a.tmps.getD d undef | none => undef
theorem put_slot (a : Act) (o : Oper) : a.put o.dst (slotOf a o) = a := by
 unfold slotOf
 cases o.dst with
 | none => rfl
 | some d =>
   obtain ⟨t, ds⟩ := a
   rw [put_some]
   congr 1
   apply Array.ext_getElem?
   intro k
   rw [Array.getElem?_setIfInBounds]
   by_cases h : d = k
   ·subst h
    rw [if_pos rfl]
    by_cases hd : d < t.size
    ·rw [if_pos hd, Array.getElem?_eq_getElem hd]
     simp [Array.getD, hd]
    ·rw [if_neg hd, Array.getElem?_eq_none (Nat.le_of_not_lt hd)]
   ·rw [if_neg h]
theorem putAll_slots (l : List Oper) (a : Act) : putAll l (l.map (slotOf a)) a = a := by
 induction l with
 | nil => rfl
 | cons o l ih => rw [List.map_cons, putAll_cons, put_slot, ih]
theorem len_cons {α : Type} {l : List α} {n : Nat} (h : l.length = n + 1) : ∃ a t, l = a :: t ∧ t.length = n := by
 cases l with
 | nil => cases h
 | cons a t => exact ⟨a, t, rfl, by simpa using h⟩
theorem len_nil {α : Type} {l : List α} (h : l.length = 0) : l = [] := List.eq_nil_of_length_eq_zero h

theorem getD_upJ {L : Array Bool} {j : Nat} (h : L.getD j false = true) : L.getD j true = true := by
 unfold Array.getD at h ⊢
 by_cases hj : j < L.size
 ·simp only [hj, dite_true] at h ⊢; exact h
 ·simp [hj] at h
theorem getD_self {L : Array Bool} {i : Nat} : (L.setIfInBounds i true).getD i true = true := by
 unfold Array.getD
 by_cases h : i < (L.setIfInBounds i true).size
 ·simp only [h, dite_true]; simp
 ·simp only [h, dite_false]
theorem getD_other {L : Array Bool} {i j : Nat} (h : i ≠ j) : (L.setIfInBounds i true).getD j true = L.getD j true := getD_set_ne true h

theorem fill2 {cs : Array Value} {a b : Value} (h : cs.size = (#[a, b] : Array Value).size) : (cs.setIfInBounds 0 a).setIfInBounds 1 b = #[a, b] := by
 rcases cs with ⟨l⟩
 have h' : l.length = 2 := h
 match l, h' with
 | [_, _], _ => rfl

structure InvJ (V : List Value) (ka ks : Nat) (T : TypeId) (fin : Array Value) (w0 : World) (vs : List Value) (L : Array Bool) (W : World) : Prop where
 below : Below w0.heap.size w0 W
 val : ∀ i, i < vs.length → i ≠ ka → i ≠ ks → L.getD i true = true → vs.getD i undef = V.getD i undef
 made : L.getD ka true = true → ∃ g, vs.getD ka undef = .pointer (some ⟨g, 0, none⟩) ∧ w0.heap.size ≤ g ∧ ∃ cs : Array Value, cs.size = fin.size ∧ Blk W g cs T ∧ (L.getD ks true = true → cs = fin)
 late : L.getD ks true = true → L.getD ka true = true
variable {V : List Value} {ka ks : Nat} {T : TypeId} {fin : Array Value} {w0 W : World} {vs : List Value} {L : Array Bool}
theorem InvJ.grow (h : InvJ V ka ks T fin w0 vs L W) (x : World) : InvJ V ka ks T fin w0 vs L (ext W x) where
 below := grow_ext _ h.below
 val := h.val
 made := fun e => let ⟨g, h1, h2, cs, h3, hb, hc⟩ := h.made e; ⟨g, h1, h2, cs, h3, hb.ext x, hc⟩
 late := h.late
theorem InvJ.grows (h : InvJ V ka ks T fin w0 vs L W) {W' : World} (hb : Below W.heap.size W W') : InvJ V ka ks T fin w0 vs L W' := by
 obtain ⟨x, rfl⟩ := ext_of hb
 exact h.grow x
theorem InvJ.up (h : InvJ V ka ks T fin w0 vs L W) (i : Nat) (ha : i ≠ ka) (hs : i ≠ ks) (hi : i < vs.length) {u : Value} (hu : u = V.getD i undef) : InvJ V ka ks T fin w0 (vs.set i u) (L.setIfInBounds i true) W where
 below := h.below
 val := fun j jl j1 j2 hj => by
  rw [List.length_set] at jl
  by_cases hij : i = j
  ·subst hij
   rw [List.getD_eq_getElem?_getD, List.getElem?_set_self hi, hu]; rfl
  ·rw [getD_other hij] at hj
   rw [List.getD_eq_getElem?_getD, List.getElem?_set_ne hij, ← List.getD_eq_getElem?_getD]
   exact h.val j jl j1 j2 hj
 made := fun e => by
  rw [getD_other ha] at e
  obtain ⟨g, h1, h2, cs, h3, hb, hc⟩ := h.made e
  refine ⟨g, ?_, h2, cs, h3, hb, fun e2 => hc (by rwa [getD_other hs] at e2)⟩
  rw [List.getD_eq_getElem?_getD, List.getElem?_set_ne ha, ← List.getD_eq_getElem?_getD]
  exact h1
 late := fun e => by rw [getD_other hs] at e; rw [getD_other ha]; exact h.late e
theorem InvJ.make (h : InvJ V ka ks T fin w0 vs L W) (hi : ka < vs.length) (hne : ka ≠ ks) (hun : L.getD ka true = false) (cs : Array Value) (hcs : cs.size = fin.size) {u : Value} (hu : u = .pointer (some ⟨W.heap.size, 0, none⟩)) : InvJ V ka ks T fin w0 (vs.set ka u) (L.setIfInBounds ka true) (W.alloc (.cells cs T)) where
 below := grow_alloc _ h.below
 val := fun j jl j1 j2 hj => by
  rw [List.length_set] at jl
  rw [getD_other (fun e => j1 e.symm)] at hj
  rw [List.getD_eq_getElem?_getD, List.getElem?_set_ne (fun e => j1 e.symm), ← List.getD_eq_getElem?_getD]
  exact h.val j jl j1 j2 hj
 made := fun _ => ⟨W.heap.size, by rw [List.getD_eq_getElem?_getD, List.getElem?_set_self hi, hu]; rfl, h.below.size, cs, hcs, Blk.new _ _ _, fun e2 => by
  rw [getD_other hne] at e2
  have := h.late e2
  rw [hun] at this; cases this⟩
 late := fun _ => getD_self
theorem InvJ.fill (h : InvJ V ka ks T fin w0 vs L W) (hne : ka ≠ ks) (hl : L.getD ka true = true) {g : Nat} (hs : vs.getD ka undef = .pointer (some ⟨g, 0, none⟩)) (hg : w0.heap.size ≤ g) {W' : World} (hb : Below w0.heap.size w0 W') (hk : Blk W' g fin T) : InvJ V ka ks T fin w0 vs (L.setIfInBounds ks true) W' where
 below := hb
 val := fun j jl j1 j2 hj => h.val j jl j1 j2 (by rwa [getD_other (fun e => j2 e.symm)] at hj)
 made := fun _ => ⟨g, hs, hg, _, rfl, hk, fun _ => rfl⟩
 late := fun _ => by rw [getD_other (fun e => hne e.symm)]; exact hl

theorem wpOp_free {ops : Array Oper} {Q : Exit → Act → World → Prop} {i : Nat} {a : Act} {w : World} {B K0 : Act → World → Prop} (hB : ∀ a w, B a w → K0 a w) (h : ∀ K : Act → World → Prop, RowKit.Hid (∀ a w, B a w → K a w) → wpOp P ops Q i K a w) : wpOp P ops Q i K0 a w := h K0 (hd0 hB)

theorem wp_region_J {id : Nat} {Q : Exit → Act → World → Prop} {a : Act} {w : World} {l : List Oper} (V : List Value) (ka ks : Nat) (T : TypeId) (fin : Array Value) (hm : P.follows .mixedOrders = true) (hf : forwardB .any l.toArray = true)
  (hka : ka < l.length) (hks : ks < l.length)
  (hstep : ∀ L vs W i, vs.length = l.length → InvJ V ka ks T fin w vs L W → i ∈ Region.ready .any l.toArray L → wpOp P l.toArray Q i (fun a' W' => ∃ vs', vs'.length = l.length ∧ a' = putAll l vs' a ∧ InvJ V ka ks T fin w vs' (L.setIfInBounds i true) W') (putAll l vs a) W)
  (hend : ∀ vs g W, vs.length = l.length → Below w.heap.size w W → (∀ i, i < l.length → i ≠ ka → i ≠ ks → vs.getD i undef = V.getD i undef) → vs.getD ka undef = .pointer (some ⟨g, 0, none⟩) → w.heap.size ≤ g → Blk W g fin T → Q .normal (putAll l vs a) W) :
  (Code.region id l.toArray true).wp P Q a w := by
 refine wp_region_inv (fun L a' W => ∃ vs, vs.length = l.length ∧ a' = putAll l vs a ∧ InvJ V ka ks T fin w vs L W) hm hf ?_ ?_ ?_
 ·have hl : (l.map (slotOf a)).length = l.length := List.length_map _
  refine ⟨l.map (slotOf a), hl, (putAll_slots l a).symm, (Below.refl _ _).drew, fun i hi _ _ e => ?_, fun e => ?_, fun e => ?_⟩
  ·rw [hl] at hi
   simp [Array.getD, hi] at e
  ·simp [Array.getD, hka] at e
  ·simp [Array.getD, hks] at e
 ·rintro L _ W i ⟨vs, h1, rfl, hJ⟩ hi
  exact hstep L vs W i h1 hJ hi
 ·rintro L _ W ⟨vs, h1, rfl, hJ⟩ hall
  obtain ⟨g, hs, hg, cs, -, hb, hc⟩ := hJ.made (hall ka hka)
  obtain rfl := hc (hall ks hks)
  exact hend vs g W h1 hJ.below (fun i hi i1 i2 => hJ.val i (by omega) i1 i2 (hall i hi)) hs hg hb
end
end Go.Proofs.YtkjljneehgmmaaaGreat

namespace Go.Proofs.YtkjljneehgmmaaaGreat
set_option linter.unusedVariables false
set_option linter.unusedSimpArgs false
open Go Go.RowKit
set_option maxRecDepth 20000
section
variable {P : Program}

structure Mk where
 ka : Nat
 ks : Nat
 T : TypeId
 fin : Array Value
def mkOk (sp : List Nat) (B : List Mk) : Prop := ∀ b ∈ B, (b.ka ∈ sp ∧ b.ks ∈ sp ∧ b.ka ≠ b.ks) ∧ ∀ b' ∈ B, (b.ka = b'.ka → b = b') ∧ (b.ks = b'.ks → b = b') ∧ b.ka ≠ b'.ks
structure InvM (V : List Value) (sp : List Nat) (B : List Mk) (w0 : World) (vs : List Value) (L : Array Bool) (W : World) : Prop where
 below : Below w0.heap.size w0 W
 val : ∀ i, i < vs.length → i ∉ sp → L.getD i true = true → vs.getD i undef = V.getD i undef
 made : ∀ b ∈ B, L.getD b.ka true = true → ∃ g, vs.getD b.ka undef = .pointer (some ⟨g, 0, none⟩) ∧ w0.heap.size ≤ g ∧ ∃ cs : Array Value, cs.size = b.fin.size ∧ Blk W g cs b.T ∧ (L.getD b.ks true = true → cs = b.fin)
 late : ∀ b ∈ B, L.getD b.ks true = true → L.getD b.ka true = true
 diff : ∀ b ∈ B, ∀ b' ∈ B, b.ka ≠ b'.ka → L.getD b.ka true = true → L.getD b'.ka true = true → vs.getD b.ka undef ≠ vs.getD b'.ka undef
theorem mkOk_two {a1 s1 a2 s2 : Nat} {T1 T2 : TypeId} {F1 F2 : Array Value} (h : a1 ≠ s1 ∧ a1 ≠ a2 ∧ a1 ≠ s2 ∧ s1 ≠ a2 ∧ s1 ≠ s2 ∧ a2 ≠ s2) : mkOk [a1, s1, a2, s2] [⟨a1, s1, T1, F1⟩, ⟨a2, s2, T2, F2⟩] := by
 obtain ⟨h1, h2, h3, h4, h5, h6⟩ := h
 intro b hb
 simp only [List.mem_cons, List.not_mem_nil, or_false] at hb
 refine ⟨?_, fun b' hb' => ?_⟩
 ·rcases hb with rfl | rfl
  ·exact ⟨by simp, by simp, h1⟩
  ·exact ⟨by simp, by simp, h6⟩
 ·simp only [List.mem_cons, List.not_mem_nil, or_false] at hb'
  rcases hb with rfl | rfl <;> rcases hb' with rfl | rfl
  ·exact ⟨fun _ => rfl, fun _ => rfl, h1⟩
  ·exact ⟨fun e => absurd e h2, fun e => absurd e h5, h3⟩
  ·exact ⟨fun e => absurd e.symm h2, fun e => absurd e.symm h5, fun e => h4 e.symm⟩
  ·exact ⟨fun _ => rfl, fun _ => rfl, h6⟩
variable {V : List Value} {sp : List Nat} {B : List Mk} {w0 W : World} {vs : List Value} {L : Array Bool}
theorem getD_set_self' {vs : List Value} {i : Nat} (h : i < vs.length) (u : Value) : (vs.set i u).getD i undef = u := by
 rw [List.getD_eq_getElem?_getD, List.getElem?_set_self h]; rfl
theorem getD_set_other {vs : List Value} {i j : Nat} (h : i ≠ j) (u : Value) : (vs.set i u).getD j undef = vs.getD j undef := by
 rw [List.getD_eq_getElem?_getD, List.getElem?_set_ne h, ← List.getD_eq_getElem?_getD]
theorem InvM.grow (h : InvM V sp B w0 vs L W) (x : World) : InvM V sp B w0 vs L (ext W x) where
 below := grow_ext _ h.below
 val := h.val
 made := fun b hb e => let ⟨g, h1, h2, cs, h3, hk, hc⟩ := h.made b hb e; ⟨g, h1, h2, cs, h3, hk.ext x, hc⟩
 late := h.late
 diff := h.diff
theorem InvM.up (h : InvM V sp B w0 vs L W) (ok : mkOk sp B) (i : Nat) (hs : i ∉ sp) (hi : i < vs.length) {u : Value} (hu : u = V.getD i undef) : InvM V sp B w0 (vs.set i u) (L.setIfInBounds i true) W where
 below := h.below
 val := fun j jl js hj => by
  rw [List.length_set] at jl
  by_cases hij : i = j
  ·subst hij
   rw [getD_set_self' hi, hu]
  ·rw [getD_other hij] at hj
   rw [getD_set_other hij]
   exact h.val j jl js hj
 made := fun b hb e => by
  have ha : i ≠ b.ka := fun e => hs (e ▸ (ok b hb).1.1)
  have hk : i ≠ b.ks := fun e => hs (e ▸ (ok b hb).1.2.1)
  rw [getD_other ha] at e
  obtain ⟨g, h1, h2, cs, h3, hb, hc⟩ := h.made b hb e
  exact ⟨g, by rw [getD_set_other ha]; exact h1, h2, cs, h3, hb, fun e2 => hc (by rwa [getD_other hk] at e2)⟩
 late := fun b hb e => by
  have ha : i ≠ b.ka := fun e => hs (e ▸ (ok b hb).1.1)
  have hk : i ≠ b.ks := fun e => hs (e ▸ (ok b hb).1.2.1)
  rw [getD_other hk] at e
  rw [getD_other ha]
  exact h.late b hb e
 diff := fun b hb b' hb' hne e e' => by
  have ha : i ≠ b.ka := fun e => hs (e ▸ (ok b hb).1.1)
  have ha' : i ≠ b'.ka := fun e => hs (e ▸ (ok b' hb').1.1)
  rw [getD_other ha] at e
  rw [getD_other ha'] at e'
  rw [getD_set_other ha, getD_set_other ha']
  exact h.diff b hb b' hb' hne e e'
theorem InvM.make (h : InvM V sp B w0 vs L W) (ok : mkOk sp B) (b : Mk) (hb : b ∈ B) (hi : b.ka < vs.length) (hun : L.getD b.ka true = false) (cs : Array Value) (hcs : cs.size = b.fin.size) {u : Value} (hu : u = .pointer (some ⟨W.heap.size, 0, none⟩)) : InvM V sp B w0 (vs.set b.ka u) (L.setIfInBounds b.ka true) (W.alloc (.cells cs b.T)) where
 below := grow_alloc _ h.below
 val := fun j jl js hj => by
  rw [List.length_set] at jl
  have hij : b.ka ≠ j := fun e => js (e ▸ (ok b hb).1.1)
  rw [getD_other hij] at hj
  rw [getD_set_other hij]
  exact h.val j jl js hj
 made := fun b' hb' e => by
  by_cases hk : b.ka = b'.ka
  ·obtain rfl := ((ok b hb).2 b' hb').1 hk
   refine ⟨W.heap.size, by rw [getD_set_self' hi, hu], h.below.size, cs, hcs, Blk.new _ _ _, fun e2 => ?_⟩
   rw [getD_other (ok b hb).1.2.2] at e2
   have := h.late b hb e2
   rw [hun] at this; cases this
  ·rw [getD_other hk] at e
   obtain ⟨g, h1, h2, cs', h3, hbk, hc⟩ := h.made b' hb' e
   exact ⟨g, by rw [getD_set_other hk]; exact h1, h2, cs', h3, hbk.alloc _, fun e2 => hc (by rwa [getD_other ((ok b hb).2 b' hb').2.2] at e2)⟩
 late := fun b' hb' e => by
  by_cases hk : b.ka = b'.ka
  ·rw [hk]; exact getD_self
  ·rw [getD_other ((ok b hb).2 b' hb').2.2] at e
   rw [getD_other hk]
   exact h.late b' hb' e
 diff := fun c hc c' hc' hne e e' => by
  have hfresh : ∀ d ∈ B, b.ka ≠ d.ka → L.getD d.ka true = true → vs.getD d.ka undef ≠ .pointer (some ⟨W.heap.size, 0, none⟩) := by
   intro d hd _ hl he
   obtain ⟨g, h1, _, _, _, hbk, _⟩ := h.made d hd hl
   rw [he] at h1
   have := hbk.lt
   injection h1 with h1
   injection h1 with h1
   injection h1 with h1
   omega
  by_cases h1 : b.ka = c.ka
  ·by_cases h2 : b.ka = c'.ka
   ·exact absurd (h1.symm.trans h2) hne
   ·rw [getD_other h2] at e'
    rw [← h1, getD_set_self' hi, getD_set_other h2, hu]
    exact (hfresh c' hc' h2 e').symm
  ·rw [getD_other h1] at e
   rw [getD_set_other h1]
   by_cases h2 : b.ka = c'.ka
   ·rw [← h2, getD_set_self' hi, hu]
    exact hfresh c hc h1 e
   ·rw [getD_other h2] at e'
    rw [getD_set_other h2]
    exact h.diff c hc c' hc' hne e e'
theorem InvM.fill (h : InvM V sp B w0 vs L W) (ok : mkOk sp B) (b : Mk) (hb : b ∈ B) (hl : L.getD b.ka true = true) {g : Nat} (hs : vs.getD b.ka undef = .pointer (some ⟨g, 0, none⟩)) (hg : w0.heap.size ≤ g) {W' : World} (hbw : Below w0.heap.size w0 W') (hfr : ∀ k, k ≠ g → W'.heap[k]? = W.heap[k]?) (hk : Blk W' g b.fin b.T) : InvM V sp B w0 vs (L.setIfInBounds b.ks true) W' where
 below := hbw
 val := fun j jl js hj => by
  have hij : b.ks ≠ j := fun e => js (e ▸ (ok b hb).1.2.1)
  rw [getD_other hij] at hj
  exact h.val j jl js hj
 made := fun b' hb' e => by
  have h1 : b.ks ≠ b'.ka := fun e => ((ok b' hb').2 b hb).2.2 e.symm
  rw [getD_other h1] at e
  by_cases h2 : b.ka = b'.ka
  ·obtain rfl := ((ok b hb).2 b' hb').1 h2
   exact ⟨g, hs, hg, _, rfl, hk, fun _ => rfl⟩
  ·obtain ⟨g', e1, e2, cs, e3, e4, e5⟩ := h.made b' hb' e
   have hne : g' ≠ g := by
    intro eq
    have := h.diff b hb b' hb' h2 hl e
    rw [hs, e1, eq] at this
    exact this rfl
   exact ⟨g', e1, e2, cs, e3, e4.of_block (hfr g' hne), fun q => e5 (by rwa [getD_other (fun e => h2 (by rw [((ok b hb).2 b' hb').2.1 e]))] at q)⟩
 late := fun b' hb' e => by
  have h1 : b.ks ≠ b'.ka := fun e => ((ok b' hb').2 b hb).2.2 e.symm
  rw [getD_other h1]
  by_cases h2 : b.ks = b'.ks
  ·obtain rfl := ((ok b hb).2 b' hb').2.1 h2
   exact hl
  ·rw [getD_other h2] at e
   exact h.late b' hb' e
 diff := fun c hc c' hc' hne e e' => by
  rw [getD_other (fun e => ((ok c hc).2 b hb).2.2 e.symm)] at e
  rw [getD_other (fun e => ((ok c' hc').2 b hb).2.2 e.symm)] at e'
  exact h.diff c hc c' hc' hne e e'

theorem wp_region_M {id : Nat} {Q : Exit → Act → World → Prop} {a : Act} {w : World} {l : List Oper} (V : List Value) (sp : List Nat) (B : List Mk) (hm : P.follows .mixedOrders = true) (hf : forwardB .any l.toArray = true)
  (hin : ∀ b ∈ B, b.ka < l.length ∧ b.ks < l.length)
  (hstep : ∀ L vs W i, vs.length = l.length → InvM V sp B w vs L W → i ∈ Region.ready .any l.toArray L → wpOp P l.toArray Q i (fun a' W' => ∃ vs', vs'.length = l.length ∧ a' = putAll l vs' a ∧ InvM V sp B w vs' (L.setIfInBounds i true) W') (putAll l vs a) W)
  (hend : ∀ vs L W, vs.length = l.length → InvM V sp B w vs L W → (∀ j, j < l.length → L.getD j true = true) → Q .normal (putAll l vs a) W) :
  (Code.region id l.toArray true).wp P Q a w := by
 refine wp_region_inv (fun L a' W => ∃ vs, vs.length = l.length ∧ a' = putAll l vs a ∧ InvM V sp B w vs L W) hm hf ?_ ?_ ?_
 ·have hl : (l.map (slotOf a)).length = l.length := List.length_map _
  have hno : ∀ j, j < l.length → (Array.replicate l.length false).getD j true = true → False := fun j hj e => by simp [Array.getD, hj] at e
  refine ⟨l.map (slotOf a), hl, (putAll_slots l a).symm, (Below.refl _ _).drew, fun i hi _ e => ?_, fun b hb e => ?_, fun b hb e => ?_, fun b hb _ _ _ e => ?_⟩
  ·exact absurd e (fun e => hno i (by rwa [hl] at hi) e)
  ·exact absurd e (fun e => hno _ (hin b hb).1 e)
  ·exact absurd e (fun e => hno _ (hin b hb).2 e)
  ·exact absurd e (fun e => hno _ (hin b hb).1 e)
 ·rintro L _ W i ⟨vs, h1, rfl, hJ⟩ hi
  exact hstep L vs W i h1 hJ hi
 ·rintro L _ W ⟨vs, h1, rfl, hJ⟩ hall
  exact hend vs L W h1 hJ hall
end
end Go.Proofs.YtkjljneehgmmaaaGreat


namespace Go.Proofs.YtkjljneehgmmaaaGreat
set_option linter.unusedVariables false
set_option linter.unusedSimpArgs false
open Go Go.RowKit
set_option maxRecDepth 20000
section
variable {P : Program}

structure PartG (sp : List Nat) (J : Array Bool → List Value → World → Prop) : Prop where
 same : ∀ L vs L' vs' W, (∀ k ∈ sp, L.getD k true = L'.getD k true ∧ vs.getD k undef = vs'.getD k undef) → J L vs W → J L' vs' W
 grow : ∀ L vs W x, J L vs W → J L vs (ext W x)
structure InvG (V : List Value) (sp : List Nat) (J : Array Bool → List Value → World → Prop) (vs : List Value) (L : Array Bool) (W : World) : Prop where
 val : ∀ i, i < vs.length → i ∉ sp → L.getD i true = true → vs.getD i undef = V.getD i undef
 part : J L vs W
variable {V : List Value} {sp : List Nat} {J : Array Bool → List Value → World → Prop} {W : World} {vs : List Value} {L : Array Bool}
theorem InvG.grow (h : InvG V sp J vs L W) (hp : PartG sp J) (x : World) : InvG V sp J vs L (ext W x) := ⟨h.val, hp.grow _ _ _ _ h.part⟩
theorem InvG.up (h : InvG V sp J vs L W) (hp : PartG sp J) (i : Nat) (hs : i ∉ sp) (hi : i < vs.length) {u : Value} (hu : u = V.getD i undef) : InvG V sp J (vs.set i u) (L.setIfInBounds i true) W where
 val := fun j jl js hj => by
  rw [List.length_set] at jl
  by_cases hij : i = j
  ·subst hij
   rw [getD_set_self' hi, hu]
  ·rw [getD_other hij] at hj
   rw [getD_set_other hij]
   exact h.val j jl js hj
 part := hp.same _ _ _ _ _ (fun k hk => by
  have hne : i ≠ k := fun e => hs (e ▸ hk)
  exact ⟨(getD_other hne).symm, (getD_set_other hne u).symm⟩) h.part
theorem InvG.spec (h : InvG V sp J vs L W) (i : Nat) (hs : i ∈ sp) (u : Value) {W' : World} (hJ : J (L.setIfInBounds i true) (vs.set i u) W') : InvG V sp J (vs.set i u) (L.setIfInBounds i true) W' where
 val := fun j jl js hj => by
  rw [List.length_set] at jl
  have hij : i ≠ j := fun e => js (e ▸ hs)
  rw [getD_other hij] at hj
  rw [getD_set_other hij]
  exact h.val j jl js hj
 part := hJ
theorem InvG.spec0 (h : InvG V sp J vs L W) (i : Nat) (hs : i ∈ sp) {W' : World} (hJ : J (L.setIfInBounds i true) vs W') : InvG V sp J vs (L.setIfInBounds i true) W' where
 val := fun j jl js hj => by
  have hij : i ≠ j := fun e => js (e ▸ hs)
  rw [getD_other hij] at hj
  exact h.val j jl js hj
 part := hJ

theorem wp_region_G {id : Nat} {Q : Exit → Act → World → Prop} {a : Act} {w : World} {l : List Oper} (V : List Value) (sp : List Nat) (J : Array Bool → List Value → World → Prop) (hm : P.follows .mixedOrders = true) (hf : forwardB .any l.toArray = true)
  (h0 : ∀ vs, vs.length = l.length → J (Array.replicate l.length false) vs w.drew)
  (hstep : ∀ L vs W i, vs.length = l.length → InvG V sp J vs L W → i ∈ Region.ready .any l.toArray L → wpOp P l.toArray Q i (fun a' W' => ∃ vs', vs'.length = l.length ∧ a' = putAll l vs' a ∧ InvG V sp J vs' (L.setIfInBounds i true) W') (putAll l vs a) W)
  (hend : ∀ vs L W, vs.length = l.length → InvG V sp J vs L W → (∀ j, j < l.length → L.getD j true = true) → Q .normal (putAll l vs a) W) :
  (Code.region id l.toArray true).wp P Q a w := by
 refine wp_region_inv (fun L a' W => ∃ vs, vs.length = l.length ∧ a' = putAll l vs a ∧ InvG V sp J vs L W) hm hf ?_ ?_ ?_
 ·have hl : (l.map (slotOf a)).length = l.length := List.length_map _
  refine ⟨l.map (slotOf a), hl, (putAll_slots l a).symm, fun i hi _ e => ?_, h0 _ hl⟩
  rw [hl] at hi
  simp [Array.getD, hi] at e
 ·rintro L _ W i ⟨vs, h1, rfl, hJ⟩ hi
  exact hstep L vs W i h1 hJ hi
 ·rintro L _ W ⟨vs, h1, rfl, hJ⟩ hall
  exact hend vs L W h1 hJ hall
end
end Go.Proofs.YtkjljneehgmmaaaGreat

namespace Go.Proofs.YtkjljneehgmmaaaGreat
set_option linter.unusedVariables false
set_option linter.unusedSimpArgs false
open Go Go.RowKit
set_option maxRecDepth 20000

theorem intsK : Maps.Keyed Tryz.prog 3 := Maps.int_keyed Tryz.underlying3
theorem bool_inv {P : Program} {e : TypeId} (he : P.underlying e = some .bool) {v : Value} {z : DataW Unit × List MemPlace} (h : plainElem P e v = some z) : ∃ c, v = .bool c ∧ z = (.lit (.bool c), []) := by
 unfold plainElem at h
 rw [he] at h
 cases v <;> simp at h
 exact ⟨_, rfl, h.symm⟩
theorem zero_boolL (w : World) : (zeroValue 4).run Tryz.prog w = .ok (.bool false) w := by kernel_rfl
theorem zero_intL (w : World) : (zeroValue 3).run Tryz.prog w = .ok (.int .i64 0) w := by kernel_rfl
def ImM {α : Type} (e : TypeId) (lit : α → Lit) (w : World) (b n : Nat) (F : Int → Option α) : Prop := ∃ D : DataW Unit, w.ownsMap Tryz.prog 3 (plainElem Tryz.prog e) b n D ∧ Maps.IsMap D ∧ ∀ (k : Int) (zd : DataW Unit), D.atKey (.int .i64 k) zd = match F k with | none => zd | some c => .lit (lit c)
section
variable {α : Type} {e : TypeId} {lit : α → Lit} {w w' : World} {b n : Nat} {F : Int → Option α}
theorem ImM.same (h : ImM e lit w b n F) (hh : w'.heap[b]? = w.heap[b]?) : ImM e lit w' b n F := by
 obtain ⟨D, ⟨es, clock, h1, h2⟩, h3⟩ := h
 exact ⟨D, ⟨es, clock, hh.trans h1, h2⟩, h3⟩
theorem ImM.lt (h : ImM e lit w b n F) : b < w.heap.size := by
 obtain ⟨D, h1, -⟩ := h
 exact h1.lt
theorem ImM.below (h : ImM e lit w b n F) (hb : Below w.heap.size w w') : ImM e lit w' b n F := h.same (hb.block b h.lt)
theorem ImM.made (w : World) (e : TypeId) (lit : α → Lit) : ImM e lit (w.alloc (.map #[] 0)) w.heap.size 0 (fun _ => none) := ⟨.map [], World.ownsMap_made _ _ _ _, ⟨_, rfl⟩, fun _ _ => rfl⟩
theorem ImM.put {k : Int} {c : α} {D : DataW Unit} (h2 : Maps.IsMap D) (h3 : ∀ (k : Int) (zd : DataW Unit), D.atKey (.int .i64 k) zd = match F k with | none => zd | some c => .lit (lit c))
  (h : w'.ownsMap Tryz.prog 3 (plainElem Tryz.prog e) b n (D.put (.int .i64 k) (.lit (lit c)))) : ImM e lit w' b n (fun j => if j = k then some c else F j) := by
 refine ⟨_, h, Maps.IsMap.put h2 _ _, fun j zd => ?_⟩
 by_cases he : j = k
 ·subst he
  rw [Maps.atKey_put_same h2 (by trivial)]
  simp
 ·rw [Maps.atKey_put_other (by simpa using fun e => he e), h3]
  simp [he]
end
theorem ImM.look {w : World} {b n : Nat} {F : Int → Option Bool} (h : ImM 4 Lit.bool w b n F) (k : Int) (hk : (Lit.int .i64 k).wf = true) : (Instr.lookup 205 (.map (some b)) (.int .i64 k) false).run Tryz.prog w = .ok (.bool ((F k).getD false)) w := by
 obtain ⟨D, h1, h2, h3⟩ := h
 obtain ⟨v, ps, hrun, hv⟩ := h1.lookup intsK Tryz.underlying205 (zero_boolL w) (plainElem_bool Tryz.underlying4 false) (Maps.keyOf_int_mk Tryz.underlying3 hk)
 rw [h3] at hv
 rw [hrun]
 have hv : plainElem Tryz.prog 4 v = some ((DataW.lit (.bool ((F k).getD false)) : DataW Unit), ps) := by rw [hv]; cases F k <;> rfl
 obtain ⟨c, rfl, hc⟩ := bool_inv Tryz.underlying4 hv
 simp only [Prod.mk.injEq, DataW.lit.injEq, Lit.bool.injEq] at hc
 rw [← hc.1]
theorem ImM.lookOk {w : World} {b n : Nat} {F : Int → Option Int} (h : ImM 3 (Lit.int .i64) w b n F) (k : Int) (hk : (Lit.int .i64 k).wf = true) : (Instr.lookup 310 (.map (some b)) (.int .i64 k) true).run Tryz.prog w = .ok (.tuple #[.int .i64 ((F k).getD 0), .bool (F k).isSome]) w := by
 obtain ⟨D, ⟨es, clock, hb, hF, _, rfl⟩, h2, h3⟩ := h
 have h4 := h3 k
 rcases Maps.fit_look true intsK Tryz.underlying310 (zero_intL w) hb hF (Maps.keyOf_int_mk Tryz.underlying3 hk) with ⟨hrun, -, hat⟩ | ⟨e0, y, -, -, hrun, hR, hat, -⟩
 ·cases hFk : F k with
  | none => rw [hrun]; rfl
  | some c =>
    rw [hFk] at h4
    have a1 := (hat (.lit (.int .i64 (c + 1)))).symm.trans (h4 _)
    simp only [DataW.lit.injEq, Lit.int.injEq, true_and] at a1
    omega
 ·cases hFk : F k with
  | none =>
    rw [hFk] at h4
    have a1 := (hat (.lit (.int .i64 0))).symm.trans (h4 _)
    have a2 := (hat (.lit (.int .i64 1))).symm.trans (h4 _)
    rw [a1] at a2
    simp only [DataW.lit.injEq, Lit.int.injEq, true_and] at a2
    omega
  | some c =>
    rw [hFk] at h4
    have a1 := (hat (.lit (.int .i64 0))).symm.trans (h4 _)
    obtain ⟨c', e1, e2, -⟩ := plainElem_int_inv Tryz.underlying3 hR
    rw [e2] at a1
    simp only [DataW.lit.injEq, Lit.int.injEq, true_and] at a1
    rw [hrun, e1, a1]
    rfl
structure TmJ (k1 k2 : Nat) (W1 : World) (m1 m2 : Nat) (A A' C C' : World → Prop) (L : Array Bool) (_vs : List Value) (W : World) : Prop where
 a0 : L.getD k1 true = false → A W
 a1 : L.getD k1 true = true → A' W
 c0 : L.getD k2 true = false → C W
 c1 : L.getD k2 true = true → C' W
 os : W.os = W1.os
 tape : W.tape = W1.tape
 output : W.output = W1.output
 size : W1.heap.size ≤ W.heap.size
 frame : ∀ k, k < W1.heap.size → k ≠ m1 → k ≠ m2 → W.heap[k]? = W1.heap[k]?
structure TmOk (k1 k2 : Nat) (W1 : World) (m1 m2 : Nat) (A A' C C' : World → Prop) : Prop where
 ne : m1 ≠ m2
 l1 : m1 < W1.heap.size
 l2 : m2 < W1.heap.size
 kne : k1 ≠ k2
 sA : ∀ W W' : World, W'.heap[m1]? = W.heap[m1]? → A W → A W'
 sA' : ∀ W W' : World, W'.heap[m1]? = W.heap[m1]? → A' W → A' W'
 sC : ∀ W W' : World, W'.heap[m2]? = W.heap[m2]? → C W → C W'
 sC' : ∀ W W' : World, W'.heap[m2]? = W.heap[m2]? → C' W → C' W'
section
variable {k1 k2 m1 m2 : Nat} {W1 W W' : World} {A A' C C' : World → Prop} {L : Array Bool} {vs : List Value}
theorem TmJ.part (ok : TmOk k1 k2 W1 m1 m2 A A' C C') : PartG [k1, k2] (TmJ k1 k2 W1 m1 m2 A A' C C') :=
 ⟨fun L vs L' vs' W hk h => by
  have s1 := (hk k1 (by simp)).1
  have s2 := (hk k2 (by simp)).1
  exact ⟨by rw [← s1]; exact h.a0, by rw [← s1]; exact h.a1, by rw [← s2]; exact h.c0, by rw [← s2]; exact h.c1, h.os, h.tape, h.output, h.size, h.frame⟩,
 fun L vs W x h => by
  have hb := below_ext W x
  have b1 := hb.block m1 (Nat.lt_of_lt_of_le ok.l1 h.size)
  have b2 := hb.block m2 (Nat.lt_of_lt_of_le ok.l2 h.size)
  exact ⟨fun e => ok.sA _ _ b1 (h.a0 e), fun e => ok.sA' _ _ b1 (h.a1 e), fun e => ok.sC _ _ b2 (h.c0 e), fun e => ok.sC' _ _ b2 (h.c1 e), hb.os.trans h.os, hb.tape.trans h.tape, hb.output.trans h.output, Nat.le_trans h.size hb.size, fun k q1 q2 q3 => by rw [hb.block k (Nat.lt_of_lt_of_le q1 h.size)]; exact h.frame k q1 q2 q3⟩⟩
theorem TmJ.init (h1 : L.getD k1 true = false) (h2 : L.getD k2 true = false) (hA : A W1.drew) (hC : C W1.drew) : TmJ k1 k2 W1 m1 m2 A A' C C' L vs W1.drew :=
 ⟨fun _ => hA, fun e => (by rw [h1] at e; cases e), fun _ => hC, fun e => (by rw [h2] at e; cases e), rfl, rfl, rfl, Nat.le_refl _, fun _ _ _ _ => rfl⟩
theorem TmJ.step1 (h : TmJ k1 k2 W1 m1 m2 A A' C C' L vs W) (ok : TmOk k1 k2 W1 m1 m2 A A' C C') (hg : W.grownBy W' (some m1)) (hA : A' W') : TmJ k1 k2 W1 m1 m2 A A' C C' (L.setIfInBounds k1 true) vs W' := by
 have b2 : W'.heap[m2]? = W.heap[m2]? := hg.block m2 (Nat.lt_of_lt_of_le ok.l2 h.size) (fun e => ok.ne (Option.some.inj e).symm)
 refine ⟨fun e => (by rw [getD_self] at e; cases e), fun _ => hA, fun e => ok.sC _ _ b2 (h.c0 ?_), fun e => ok.sC' _ _ b2 (h.c1 ?_), hg.os.trans h.os, hg.tape.trans h.tape, hg.output.trans h.output, Nat.le_trans h.size hg.size, fun k q1 q2 q3 => by rw [hg.block k (Nat.lt_of_lt_of_le q1 h.size) (fun e => q2 (Option.some.inj e))]; exact h.frame k q1 q2 q3⟩
 ·rwa [getD_other ok.kne] at e
 ·rwa [getD_other ok.kne] at e
theorem TmJ.step2 (h : TmJ k1 k2 W1 m1 m2 A A' C C' L vs W) (ok : TmOk k1 k2 W1 m1 m2 A A' C C') (hg : W.grownBy W' (some m2)) (hC : C' W') : TmJ k1 k2 W1 m1 m2 A A' C C' (L.setIfInBounds k2 true) vs W' := by
 have b1 : W'.heap[m1]? = W.heap[m1]? := hg.block m1 (Nat.lt_of_lt_of_le ok.l1 h.size) (fun e => ok.ne (Option.some.inj e))
 refine ⟨fun e => ok.sA _ _ b1 (h.a0 ?_), fun e => ok.sA' _ _ b1 (h.a1 ?_), fun e => (by rw [getD_self] at e; cases e), fun _ => hC, hg.os.trans h.os, hg.tape.trans h.tape, hg.output.trans h.output, Nat.le_trans h.size hg.size, fun k q1 q2 q3 => by rw [hg.block k (Nat.lt_of_lt_of_le q1 h.size) (fun e => q3 (Option.some.inj e))]; exact h.frame k q1 q2 q3⟩
 ·rwa [getD_other (Ne.symm ok.kne)] at e
 ·rwa [getD_other (Ne.symm ok.kne)] at e
end
end Go.Proofs.YtkjljneehgmmaaaGreat

namespace Go.Proofs.YtkjljneehgmmaaaGreat
set_option linter.unusedVariables false
set_option linter.unusedSimpArgs false
open Go.RowKit
set_option maxRecDepth 20000

structure LapV (l : List Br) (rs : List Rn) (j : Int × Int) : Prop where
 r1 : 0 ≤ j.1 ∧ j.1 < countS rs
 r2 : 0 ≤ j.2 ∧ j.2 < countS rs
 legs : ∃ a b, mainI l rs j.1 = some a ∧ mainI l rs j.2 = some b ∧ a.lx < b.lx ∧ a.hx < b.hx ∧ b.lx ≤ a.hx
structure LapsV (l : List Br) (rs : List Rn) (lp : List (Int × Int)) : Prop where
 len : lp.length ≤ 1000
 one : ∀ j ∈ lp, LapV l rs j
 first : (lp.map (·.1)).Nodup
 second : (lp.map (·.2)).Nodup
structure DtV (x : Dt) : Prop where
 q : mbB x.q = true
 laid : laidB x.l x.rs = true
 dm : ∀ f ∈ x.dm, DmV f
 dlen : x.dm.length ≤ 20
 dname : ∀ i j (hi : i < x.dm.length) (hj : j < x.dm.length), i < j → ((x.dm[i]).name.toList == (x.dm[j]).name.toList) = false
 ru : ruOk x.ru
 laps : LapsV x.l x.rs x.lp
def nextI (lp : List (Int × Int)) (i : Int) : Option Int := (lp.find? fun j => decide (j.1 = i)).map (·.2)
def secB (lp : List (Int × Int)) (i : Int) : Bool := lp.any fun j => decide (j.2 = i)
def chainF (lp : List (Int × Int)) : Nat → Int → List Int
 | 0, i => [i]
 | f + 1, i => i :: (match nextI lp i with | none => [] | some k => chainF lp f k)
structure LpOk (M : Int → Option Bx) (n : Int) (lp : List (Int × Int)) : Prop where
 one : ∀ j ∈ lp, (0 ≤ j.1 ∧ j.1 < n) ∧ (0 ≤ j.2 ∧ j.2 < n) ∧ ∃ a b, M j.1 = some a ∧ M j.2 = some b ∧ a.lx < b.lx ∧ a.hx < b.hx ∧ b.lx ≤ a.hx
 near : ∀ i b, 0 ≤ i → i < n → M i = some b → -1048576 ≤ b.lx ∧ b.lx ≤ 1048576
section
variable {M : Int → Option Bx} {n : Int} {lp : List (Int × Int)}
theorem next_lap {i k : Int} (h : nextI lp i = some k) : (i, k) ∈ lp := by
 unfold nextI at h
 obtain ⟨j, hj, rfl⟩ := Option.map_eq_some_iff.1 h
 have h1 := List.mem_of_find?_eq_some hj
 have h2 := List.find?_some hj
 have h3 : j.1 = i := by simpa using h2
 rw [← h3]
 exact h1
def measI (M : Int → Option Bx) (i : Int) : Nat := match M i with | none => 0 | some b => (1048577 - b.lx).toNat
theorem next_meas (hl : LpOk M n lp) {i k : Int} (h : nextI lp i = some k) : measI M k < measI M i := by
 obtain ⟨⟨n1, n2⟩, ⟨n3, n4⟩, a, b, h1, h2, h3, -, -⟩ := hl.one _ (next_lap h)
 have h4 := (hl.near _ _ n1 n2 h1).2
 have h5 := (hl.near _ _ n3 n4 h2).2
 clear n1 n2 n3 n4
 simp only at h1 h2
 unfold measI
 rw [h1, h2]
 show (1048577 - b.lx).toNat < (1048577 - a.lx).toNat
 omega
theorem chainF_mem (f : Nat) : ∀ (i j : Int), j ∈ chainF lp f i → j = i ∨ ∃ k, (k, j) ∈ lp := by
 induction f with
 | zero => intro i j hj; exact .inl (List.mem_singleton.1 hj)
 | succ f ih =>
   intro i j hj
   unfold chainF at hj
   rcases List.mem_cons.1 hj with h | h
   ·exact .inl h
   ·cases e : nextI lp i with
    | none => rw [e] at h; cases h
    | some k =>
      rw [e] at h
      rcases ih k j h with rfl | h2
      ·exact .inr ⟨i, next_lap e⟩
      ·exact .inr h2
theorem chainF_ne (f : Nat) (i : Int) : ∃ t, chainF lp f i = i :: t := by
 cases f with
 | zero => exact ⟨[], rfl⟩
 | succ f => exact ⟨_, rfl⟩
theorem chainF_cover (hl : LpOk M n lp) (f : Nat) : ∀ (i : Int) (a z : Bx) (p : Int), M i = some a → M ((chainF lp f i).getLast?.getD 0) = some z → a.lx ≤ p → p ≤ z.hx → ∃ j ∈ chainF lp f i, ∃ b, M j = some b ∧ b.lx ≤ p ∧ p ≤ b.hx := by
 induction f with
 | zero =>
   intro i a z p ha hz h1 h2
   have hz' : M i = some z := hz
   rw [ha] at hz'
   cases hz'
   exact ⟨i, List.mem_singleton.2 rfl, a, ha, h1, h2⟩
 | succ f ih =>
   intro i a z p ha hz h1 h2
   unfold chainF at hz ⊢
   cases e : nextI lp i with
   | none =>
     rw [e] at hz
     have hz' : M i = some z := hz
     rw [ha] at hz'
     cases hz'
     exact ⟨i, List.mem_cons_self, a, ha, h1, h2⟩
   | some k =>
     rw [e] at hz
     simp only at hz ⊢
     obtain ⟨t, ht⟩ := chainF_ne (lp := lp) f k
     rw [ht, List.getLast?_cons_cons, ← ht] at hz
     obtain ⟨-, -, a', b, h3, h4, -, -, h5⟩ := hl.one _ (next_lap e)
     simp only at h3 h4
     rw [ha] at h3
     cases h3
     by_cases hp : p ≤ a.hx
     ·exact ⟨i, List.mem_cons_self, a, ha, h1, hp⟩
     ·obtain ⟨j, hj, c, q1, q2, q3⟩ := ih k b z p h4 hz (by omega) h2
      exact ⟨j, List.mem_cons_of_mem _ hj, c, q1, q2, q3⟩
end
end Go.Proofs.YtkjljneehgmmaaaGreat


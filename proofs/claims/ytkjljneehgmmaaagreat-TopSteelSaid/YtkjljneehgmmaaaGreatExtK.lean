/- Ext, Tail, LawForms0 in one text. -/
import Derived.Test.YtkjljneehgmmaaaGreatRows
import Derived.WalkKit
import Derived.WalkSpells
import Derived.WalkLawsBesides
import Derived.Deep.QuietTactic
import Derived.BigQuiet
import Derived.Lib.Hide
import Derived.Outline
import Derived.StillTailTactics
namespace Go.Proofs.YtkjljneehgmmaaaGreat
open Go.RowKit
set_option maxRecDepth 20000

def ext (w x : World) : World := { heap := w.heap ++ x.heap, tape := w.tape, drawn := x.drawn, os := w.os, output := w.output }

theorem size_ext (w x : World) : (ext w x).heap.size = w.heap.size + x.heap.size := by simp [ext]

theorem heap_ext (w x : World) (k : Nat) (h : k < w.heap.size) : (ext w x).heap[k]? = w.heap[k]? := by
 show (w.heap ++ x.heap)[k]? = _
 rw [Array.getElem?_append_left h]

theorem ext_ext (w x y : World) : ext (ext w x) y = ext w (ext x y) := by simp [ext]
theorem ext_drew (w x : World) : ext w.drew x = ext w x := rfl

theorem below_ext (w x : World) : Below w.heap.size w (ext w x) :=
 ⟨rfl, rfl, rfl, by rw [size_ext]; omega, fun k hk => heap_ext w x k hk⟩

theorem ext_of {w w' : World} (h : Below w.heap.size w w') : ∃ x, w' = ext w x := by
 refine ⟨{ w' with heap := w'.heap.extract w.heap.size w'.heap.size }, ?_⟩
 obtain ⟨h1, h2, h3, h4, h5⟩ := h
 obtain ⟨heap, tape, drawn, os, output⟩ := w'
 simp only at h1 h2 h3 h4 h5
 subst h1 h2 h3
 simp only [ext, World.mk.injEq, and_true]
 apply Array.ext_getElem?
 intro k
 by_cases hk : k < w.heap.size
 ·rw [Array.getElem?_append_left hk, h5 k hk]
 ·rw [Array.getElem?_append_right (by omega), Array.getElem?_extract]
  by_cases hk2 : k < heap.size
  ·rw [if_pos (by omega)]; congr 1; omega
  ·rw [if_neg (by omega), Array.getElem?_eq_none (by omega)]

theorem cell_lt {w : World} {a : Addr} (h : (w.cell? a).isSome = true) : a.block < w.heap.size := by
 obtain ⟨u, hu⟩ := Option.isSome_iff_exists.1 h
 exact World.block_lt_of_cell? w a hu

def cellB (w x : World) (a : Addr) : Option Value := if a.block < w.heap.size then none else (ext w x).cell? a
def cellA (w : World) (o : Obj) (a : Addr) : Option Value := if a.block < w.heap.size then none else (w.alloc o).cell? a
theorem cell_none (w : World) (a : Addr) (h : ¬ a.block < w.heap.size) : w.cell? a = none := by
 unfold World.cell?; rw [Array.getElem?_eq_none (by omega)]
theorem cell_ext (w x : World) (a : Addr) : (ext w x).cell? a = (w.cell? a).or (cellB w x a) := by
 unfold cellB
 by_cases h : a.block < w.heap.size
 ·rw [if_pos h, World.cell?_of_block (w := w) (heap_ext w x a.block h), Option.or_none]
 ·rw [if_neg h, cell_none w a h, Option.none_or]
theorem cell_alloc (w : World) (o : Obj) (a : Addr) : (w.alloc o).cell? a = (w.cell? a).or (cellA w o a) := by
 unfold cellA
 by_cases h : a.block < w.heap.size
 ·rw [if_pos h, World.cell?_alloc_lt w o a h, Option.or_none]
 ·rw [if_neg h, cell_none w a h, Option.none_or]
theorem frozen_ext (w x : World) (a : Addr) (h : (w.cell? a).isSome = true) : (ext w x).frozen? a = w.frozen? a :=
 World.frozen?_of_block (w := w) (heap_ext w x a.block (cell_lt h))
theorem frozen_alloc_some (w : World) (o : Obj) (a : Addr) (h : (w.cell? a).isSome = true) : (w.alloc o).frozen? a = w.frozen? a :=
 World.frozen?_alloc_old w o a (Nat.ne_of_lt (cell_lt h))
theorem setCell_alloc_some (w : World) (o : Obj) (a : Addr) (v : Value) (h : (w.cell? a).isSome = true) : (w.alloc o).setCell a v = (w.setCell a v).alloc o := by
 have hl := cell_lt h
 unfold World.setCell World.alloc
 congr 1
 apply Array.ext_getElem?
 intro k
 simp only [Array.getElem?_modify, Array.getElem?_push, Array.size_modify]
 by_cases hk : k = w.heap.size
 ·subst hk
  simp [Nat.ne_of_lt hl]
 ·simp [hk]
theorem setCell_ext (w x : World) (a : Addr) (v : Value) (h : (w.cell? a).isSome = true) : (ext w x).setCell a v = ext (w.setCell a v) x := by
 have hl := cell_lt h
 unfold World.setCell ext
 congr 1
 apply Array.ext_getElem?
 intro k
 simp only [Array.getElem?_modify]
 by_cases hk : k < w.heap.size
 ·rw [Array.getElem?_append_left hk, Array.getElem?_append_left (by simpa using hk), Array.getElem?_modify]
 ·rw [Array.getElem?_append_right (by omega), Array.getElem?_append_right (by simpa using hk)]
  rw [if_neg (by omega)]
  simp

def Ret (w : World) (v : Value) (e : Ending) (w' : World) : Prop := e = .returned v ∧ ∃ x, w' = ext w x

theorem Ret.of {w w' : World} {v : Value} (h : Below w.heap.size w w') : Ret w v (.returned v) w' := ⟨rfl, ext_of h⟩

theorem Calls.quiet_ext {P : Program} {f : FuncId} {args : Array Value} {w x : World} {v : Value}
  (h : Calls P f args (ext w x) (Ret (ext w x) v)) : Calls P f args (ext w x) fun e w'' => e = .returned v ∧ ∃ y, w'' = ext w y :=
 h.mono fun _ _ ⟨he, y, hy⟩ => ⟨he, ext x y, by rw [hy, ext_ext]⟩

theorem wp_region_grows {P : Program} {id : Nat} {Q : Exit → Act → World → Prop} {a : Act} {w : World} {l : List Oper} (hm : P.follows .mixedOrders = true) (hB : Region.lexB .any l.toArray = true)
  (h : wpQuiet P l.toArray (fun w' => ∃ x, w' = ext w x) (fun a' => ∀ w', (∃ x, w' = ext w x) → Q .normal a' w') l a) : (Code.region id l.toArray true).wp P Q a w :=
 wp_region_quiet (C := fun w' => ∃ x, w' = ext w x) hm hB (ext_of (Below.refl _ _).drew) (by simpa using h)

theorem if_max (x y : Int) : (if x < y then y else x) = max x y := by omega
theorem if_min (x y : Int) : (if y < x then y else x) = min x y := by omega

attribute [go_sem] if_max if_min size_ext ext_drew frozen_ext frozen_alloc_some setCell_alloc_some setCell_ext
attribute [go_sem low] cell_ext cell_alloc
attribute [irreducible] ext

theorem grow_refl (w : World) : Below w.heap.size w w := Below.refl _ _
theorem grow_alloc {w a : World} (o : Obj) (h : Below w.heap.size w a) : Below w.heap.size w (a.alloc o) := h.alloc h.size o
theorem grow_ext {w a : World} (x : World) (h : Below w.heap.size w a) : Below w.heap.size w (ext a x) := h.trans ((below_ext a x).mono h.size)
theorem grow_drew {w a : World} (h : Below w.heap.size w a) : Below w.heap.size w a.drew := h.drew
instance gr0 (w : World) : Nonempty (Below w.heap.size w w) := ⟨grow_refl w⟩
instance gr1 (w a : World) (x : World) [h : Nonempty (Below w.heap.size w a)] : Nonempty (Below w.heap.size w (ext a x)) := ⟨grow_ext x (h.elim id)⟩
instance gr2 (w a : World) (o : Obj) [h : Nonempty (Below w.heap.size w a)] : Nonempty (Below w.heap.size w (a.alloc o)) := ⟨grow_alloc o (h.elim id)⟩
instance gr3 (w a : World) [h : Nonempty (Below w.heap.size w a)] : Nonempty (Below w.heap.size w a.drew) := ⟨grow_drew (h.elim id)⟩
theorem gro {w a : World} [h : Nonempty (Below w.heap.size w a)] : Below w.heap.size w a := h.elim id
theorem grob {w b a : World} (h : Below w.heap.size w b) [h2 : Nonempty (Below b.heap.size b a)] : Below w.heap.size w a := h.trans (Below.mono (h2.elim id) h.size)
theorem hd0 {P : Prop} (h : P) : Go.RowKit.Hid P := Lib.hid h

end Go.Proofs.YtkjljneehgmmaaaGreat

namespace Go.Proofs.YtkjljneehgmmaaaGreat
open Go Go.RowKit
set_option maxRecDepth 20000
section
variable {P : Program} {ops : Array Oper} {md : Region.Mode} {C : World → Prop}

def headQ (P : Program) (md : Region.Mode) (ops : Array Oper) (C : World → Prop) (n : Nat) (G : Array Bool → Act → Prop) : Nat → Array Bool → Act → Prop
 | 0, listed, a => G listed a
 | f + 1, listed, a => Region.ready md ops listed ≠ [] ∧ ∀ i ∈ Region.ready md ops listed, i < n ∧ qOp P ops C i (headQ P md ops C n G f (listed.setIfInBounds i true)) a

theorem any_of_headQ {n g : Nat} {G : Array Bool → Act → Prop} {Q : Exit → Act → World → Prop} (hG : ∀ listed a w, C w → G listed a → wpAny P md ops Q g listed a w) (f : Nat) :
  ∀ (listed : Array Bool) (a : Act) (w : World), C w → headQ P md ops C n G f listed a → wpAny P md ops Q (f + g) listed a w := by
 induction f with
 | zero => intro listed a w hw h; rw [Nat.zero_add]; exact hG _ _ _ hw h
 | succ f ih =>
   intro listed a w hw h
   rw [show f + 1 + g = (f + g) + 1 by omega]
   exact ⟨fun h0 => absurd h0 h.1, fun i hi => wpOp_of_qOp hw (fun a' w' hw' h' => ih _ a' w' hw' h') (h.2 i hi).2⟩

theorem ready_lt {n i j : Nat} {listed : Array Bool} (hs : Region.sinkB md ops n = true) (hc : Region.chainB md ops n = true) (hn : n < ops.size) (inv : HeadInv md ops n listed)
  (hi : i ∈ Region.ready md ops listed) (hin : i < n) (hj : j ∈ Region.ready md ops listed) : j < n := by
 rcases Nat.lt_or_ge j n with h | h
 ·exact h
 ·exact absurd hj (tail_waits hs hc hn inv _ i rfl hin (mem_ready.1 hi).1 j h)

theorem headQ_take {n i : Nat} {oi : Oper} {v : Value} {G : Array Bool → Act → Prop} (hi : ops[i]? = some oi) (hsel : ∀ (j : Nat) (o : Oper) cs b, ops[j]? = some o → o.op ≠ .select cs b)
  (hs : Region.sinkB md ops n = true) (hc : Region.chainB md ops n = true) (hn : n < ops.size) (hin : i < n) (hG : ∀ listed a, G listed a → ∀ j ∈ Region.ready md ops listed, n ≤ j) (f : Nat) :
  ∀ (listed : Array Bool) (a : Act), HeadInv md ops n listed →
   (∀ j oj, ops[j]? = some oj → j ≠ i → listed.getD j true = false → (∀ e ∈ oj.after, Region.binds md e = true → e.on ≠ i) → oi.apart ops oj = true) →
   i ∈ Region.ready md ops listed → YieldsIn P ops C oi v a →
   headQ P md ops C n G f (listed.setIfInBounds i true) (a.put oi.dst v) → headQ P md ops C n G (f + 1) listed a := by
 induction f with
 | zero =>
   intro listed a inv _ hr hy H
   refine ⟨fun h => (by rw [h] at hr; cases hr), fun j hj => ?_⟩
   have hjn := ready_lt hs hc hn inv hr hin hj
   by_cases hji : j = i
   ·subst hji; exact ⟨hjn, hy.qOp hi H⟩
   ·have := hG _ _ H j (ready_mono hj hji)
    omega
 | succ f ih =>
   intro listed a inv hfree hr hy H
   refine ⟨fun h => (by rw [h] at hr; cases hr), fun j hj => ?_⟩
   have hjn := ready_lt hs hc hn inv hr hin hj
   refine ⟨hjn, ?_⟩
   by_cases hji : j = i
   ·subst hji; exact hy.qOp hi H
   ·obtain ⟨hjun, oj, hoj, hall⟩ := mem_ready.1 hj
    have hun := (mem_ready.1 hr).1
    have hnot : ∀ e ∈ oj.after, Region.binds md e = true → e.on ≠ i := fun e he hb heq => by
     have h1 := hall e he hb
     rw [heq, getD_both hun] at h1
     cases h1
    have h2 := qOp_put hoj (hfree j oj hoj hji hjun hnot) (fun cs b => hsel i oi cs b hi) (fun cs b => hsel j oj cs b hoj) hy (H.2 j (ready_mono hj hji)).2
    refine qOp_mono (fun a' h3 => ih (listed.setIfInBounds j true) a' (inv.set hj hjn) (fun k ok hk hki hkun hno => ?_) (ready_mono hr (Ne.symm hji)) h3.1 ?_) h2
    ·refine hfree k ok hk hki ?_ hno
     by_cases hjk : j = k
     ·subst hjk; exact hjun
     ·rw [getD_set_ne true hjk] at hkun; exact hkun
    ·rw [Array.setIfInBounds_comm _ _ hji]
     exact h3.2

theorem headQ_lex {n g : Nat} {G : Act → Prop} (hsel : Region.noSelect ops = true) (hs : Region.sinkB md ops n = true) (hc : Region.chainB md ops n = true) (hn : n < ops.size) (l : List Oper) :
  ∀ (k : Nat) (listed : Array Bool) (a : Act), (∀ j, j < l.length → l[j]? = ops[k + j]?) → k + l.length = n → HeadInv md ops n listed →
  Region.lexHead md ops g l.length k listed = true → wpQuiet P ops C G l a →
  headQ P md ops C n (fun listed' a' => Region.seqB md ops g n listed' = true ∧ G a') l.length listed a := by
 induction l with
 | nil =>
   intro k listed a _ hk _ hB h
   have : k = n := by simpa using hk
   subst this
   exact ⟨by simpa [Region.lexHead] using hB, h⟩
 | cons o l ih =>
   intro k listed a hl hk inv hB h
   have h0 : ops[k]? = some o := by simpa using (hl 0 (by simp)).symm
   simp only [List.length_cons, Region.lexHead, Bool.and_eq_true] at hB
   obtain ⟨⟨hr, hf⟩, hB'⟩ := hB
   simp only [List.length_cons] at hk
   have hr' : k ∈ Region.ready md ops listed := by simpa using hr
   have hq : qOp P ops C k (wpQuiet P ops C G l) a := by unfold qOp; simp only [h0]; exact h
   obtain ⟨v, hy, hK⟩ := yieldsIn_of_qOp h0 hq
   exact headQ_take h0 (Region.noSelect_spec hsel) hs hc hn (by omega) (fun listed' a' hL => seqB_ready hL.1) l.length listed a inv (Region.free_spec h0 hf) hr' hy
    (ih (k + 1) _ _ (fun j hj => by have := hl (j + 1) (by simp; omega); simpa [Nat.add_assoc, Nat.add_comm 1 j] using this) (by omega) (inv.set hr' (by omega)) hB' hK)

theorem wp_region_tail {id : Nat} {Q : Exit → Act → World → Prop} {a : Act} {w : World} {l : List Oper} (n : Nat) (hm : P.follows .mixedOrders = true) (hB : Region.lexTailB .any l.toArray n = true)
  (h : wpQuiet P l.toArray (fun w' => ∃ x, w' = ext w x) (fun a' => ∀ w', (∃ x, w' = ext w x) → wpList P l.toArray Q (l.drop n) a' w') (l.take n) a) : (Code.region id l.toArray true).wp P Q a w := by
 simp only [Region.lexTailB, Bool.and_eq_true, decide_eq_true_eq] at hB
 obtain ⟨⟨⟨⟨hsel, hn⟩, hs⟩, hc⟩, hlex⟩ := hB
 have hn' : n < l.length := by simpa using hn
 have htl : (l.take n).length = n := by simp; omega
 have inv0 : HeadInv .any l.toArray n (Array.replicate l.toArray.size false) :=
  ⟨by simp, fun j oj _ hl => (by rw [getD_replicate_false] at hl; cases hl), fun t _ ht => getD_in (by simpa using ht) (getD_replicate_false _ _)⟩
 have H := headQ_lex (md := .any) (g := l.toArray.size - n) hsel hs hc hn (l.take n) 0 _ a (fun j hj => by
  have hj' : j < n := by rw [htl] at hj; exact hj
  simp [hj']) (by simpa using htl) inv0 (by rw [htl]; exact hlex) h
 refine wp_region_any hm ?_
 have := any_of_headQ (Q := Q) (g := l.toArray.size - n) (fun listed a' w' hw hL => by
  have := wpAny_of_seq (md := .any) (Q' := Q) (l.drop n) n listed a' w' (fun j => by simp [List.getElem?_drop]) (by rw [show (l.drop n).length = l.toArray.size - n by simp]; exact hL.1) (hL.2 w' hw)
  rwa [show (l.drop n).length = l.toArray.size - n by simp] at this) _ _ _ { w with drawn := w.drawn + 1 } (ext_of (Below.refl _ _).drew) H
 rw [htl, show n + (l.toArray.size - n) = l.toArray.size by omega] at this
 exact this

def sinkFrom (md : Region.Mode) (ops : Array Oper) (m n : Nat) : Bool :=
 (List.range n).all fun i => decide (i < m) || (List.range (n + 1)).any fun j => decide (i < j) && Region.waitsFor md ops j i

theorem tail_waits_from {m n : Nat} {listed : Array Bool} (hs : sinkFrom md ops m n = true) (hc : Region.chainB md ops n = true) (hn : n < ops.size) (inv : HeadInv md ops n listed) :
  ∀ (d i : Nat), n - i = d → m ≤ i → i < n → listed.getD i true = false → ∀ t, n ≤ t → t ∉ Region.ready md ops listed := by
 intro d
 induction d using Nat.strongRecOn with
 | _ d ih =>
   intro i hd hmi hi hun t ht hr
   obtain ⟨_, ot, hot, hall⟩ := mem_ready.1 hr
   have htlt : t < ops.size := (Array.getElem?_eq_some_iff.1 hot).1
   by_cases htn : t = n
   ·subst htn
    have h1 := List.all_eq_true.1 hs i (List.mem_range.2 hi)
    rw [Bool.or_eq_true, decide_eq_true_eq] at h1
    rcases h1 with h1 | h1
    ·omega
    obtain ⟨j, hj, hj2⟩ := List.any_eq_true.1 h1
    simp only [Bool.and_eq_true, decide_eq_true_eq] at hj2
    obtain ⟨oj, hoj, e, he, hb, hon⟩ := Region.waitsFor_spec hj2.2
    have hjle : j ≤ t := by have := List.mem_range.1 hj; omega
    by_cases hjt : j = t
    ·subst hjt
     have : oj = ot := Option.some.inj (hoj.symm.trans hot)
     subst this
     have h2 := hall e he hb
     rw [hon, getD_both hun] at h2
     cases h2
    ·cases hl : listed.getD j false with
     | true =>
       have h2 := inv.closed j oj hoj hl e he hb
       rw [hon, getD_both hun] at h2
       cases h2
     | false =>
       have hjs : j < listed.size := by rw [inv.size]; omega
       exact ih (t - j) (by omega) j rfl (by omega) (by omega) (getD_in hjs hl) t (Nat.le_refl _) hr
   ·have h1 := List.all_eq_true.1 hc t (List.mem_range.2 htlt)
    simp only [Bool.or_eq_true, decide_eq_true_eq] at h1
    rcases h1 with h1 | h1
    ·omega
    ·obtain ⟨o', ho', e, he, hb, hon⟩ := Region.waitsFor_spec h1
     have : o' = ot := Option.some.inj (ho'.symm.trans hot)
     subst this
     have h2 := hall e he hb
     rw [hon, getD_both (inv.tail (t - 1) (by omega) (by omega))] at h2
     cases h2

theorem ready_lt_from {m n i j : Nat} {listed : Array Bool} (hs : sinkFrom md ops m n = true) (hc : Region.chainB md ops n = true) (hn : n < ops.size) (inv : HeadInv md ops n listed)
  (hi : i ∈ Region.ready md ops listed) (hmi : m ≤ i) (hin : i < n) (hj : j ∈ Region.ready md ops listed) : j < n := by
 rcases Nat.lt_or_ge j n with h | h
 ·exact h
 ·exact absurd hj (tail_waits_from hs hc hn inv _ i rfl hmi hin (mem_ready.1 hi).1 j h)

theorem headQ_take_from {m n i : Nat} {oi : Oper} {v : Value} {G : Array Bool → Act → Prop} (hi : ops[i]? = some oi) (hsel : ∀ (j : Nat) (o : Oper) cs b, ops[j]? = some o → o.op ≠ .select cs b)
  (hs : sinkFrom md ops m n = true) (hc : Region.chainB md ops n = true) (hn : n < ops.size) (hmi : m ≤ i) (hin : i < n) (hG : ∀ listed a, G listed a → ∀ j ∈ Region.ready md ops listed, n ≤ j) (f : Nat) :
  ∀ (listed : Array Bool) (a : Act), HeadInv md ops n listed →
   (∀ j oj, ops[j]? = some oj → j ≠ i → listed.getD j true = false → (∀ e ∈ oj.after, Region.binds md e = true → e.on ≠ i) → oi.apart ops oj = true) →
   i ∈ Region.ready md ops listed → YieldsIn P ops C oi v a →
   headQ P md ops C n G f (listed.setIfInBounds i true) (a.put oi.dst v) → headQ P md ops C n G (f + 1) listed a := by
 induction f with
 | zero =>
   intro listed a inv _ hr hy H
   refine ⟨fun h => (by rw [h] at hr; cases hr), fun j hj => ?_⟩
   have hjn := ready_lt_from hs hc hn inv hr hmi hin hj
   by_cases hji : j = i
   ·subst hji; exact ⟨hjn, hy.qOp hi H⟩
   ·have := hG _ _ H j (ready_mono hj hji)
    omega
 | succ f ih =>
   intro listed a inv hfree hr hy H
   refine ⟨fun h => (by rw [h] at hr; cases hr), fun j hj => ?_⟩
   have hjn := ready_lt_from hs hc hn inv hr hmi hin hj
   refine ⟨hjn, ?_⟩
   by_cases hji : j = i
   ·subst hji; exact hy.qOp hi H
   ·obtain ⟨hjun, oj, hoj, hall⟩ := mem_ready.1 hj
    have hun := (mem_ready.1 hr).1
    have hnot : ∀ e ∈ oj.after, Region.binds md e = true → e.on ≠ i := fun e he hb heq => by
     have h1 := hall e he hb
     rw [heq, getD_both hun] at h1
     cases h1
    have h2 := qOp_put hoj (hfree j oj hoj hji hjun hnot) (fun cs b => hsel i oi cs b hi) (fun cs b => hsel j oj cs b hoj) hy (H.2 j (ready_mono hj hji)).2
    refine qOp_mono (fun a' h3 => ih (listed.setIfInBounds j true) a' (inv.set hj hjn) (fun k ok hk hki hkun hno => ?_) (ready_mono hr (Ne.symm hji)) h3.1 ?_) h2
    ·refine hfree k ok hk hki ?_ hno
     by_cases hjk : j = k
     ·subst hjk; exact hjun
     ·rw [getD_set_ne true hjk] at hkun; exact hkun
    ·rw [Array.setIfInBounds_comm _ _ hji]
     exact h3.2

theorem headQ_lex_from {m n g : Nat} {G : Act → Prop} (hsel : Region.noSelect ops = true) (hs : sinkFrom md ops m n = true) (hc : Region.chainB md ops n = true) (hn : n < ops.size) (l : List Oper) :
  ∀ (k : Nat) (listed : Array Bool) (a : Act), m ≤ k → (∀ j, j < l.length → l[j]? = ops[k + j]?) → k + l.length = n → HeadInv md ops n listed →
  Region.lexHead md ops g l.length k listed = true → wpQuiet P ops C G l a →
  headQ P md ops C n (fun listed' a' => Region.seqB md ops g n listed' = true ∧ G a') l.length listed a := by
 induction l with
 | nil =>
   intro k listed a _ _ hk _ hB h
   have : k = n := by simpa using hk
   subst this
   exact ⟨by simpa [Region.lexHead] using hB, h⟩
 | cons o l ih =>
   intro k listed a hmk hl hk inv hB h
   have h0 : ops[k]? = some o := by simpa using (hl 0 (by simp)).symm
   simp only [List.length_cons, Region.lexHead, Bool.and_eq_true] at hB
   obtain ⟨⟨hr, hf⟩, hB'⟩ := hB
   simp only [List.length_cons] at hk
   have hr' : k ∈ Region.ready md ops listed := by simpa using hr
   have hq : qOp P ops C k (wpQuiet P ops C G l) a := by unfold qOp; simp only [h0]; exact h
   obtain ⟨v, hy, hK⟩ := yieldsIn_of_qOp h0 hq
   exact headQ_take_from h0 (Region.noSelect_spec hsel) hs hc hn hmk (by omega) (fun listed' a' hL => seqB_ready hL.1) l.length listed a inv (Region.free_spec h0 hf) hr' hy
    (ih (k + 1) _ _ (by omega) (fun j hj => by have := hl (j + 1) (by simp; omega); simpa [Nat.add_assoc, Nat.add_comm 1 j] using this) (by omega) (inv.set hr' (by omega)) hB' hK)

def appB (md : Region.Mode) (ops : Array Oper) (n : Nat) : Bool :=
 Region.noSelect ops && decide (n < ops.size) && decide (1 ≤ n) && sinkFrom md ops 1 n && Region.chainB md ops n && Region.free md ops (Array.replicate ops.size false) 0 && (Region.ready md ops (Array.replicate ops.size false)).contains 0 &&
  Region.lexHead md ops (ops.size - n) (n - 1) 1 ((Array.replicate ops.size false).setIfInBounds 0 true)

theorem wp_region_app {id : Nat} {Q : Exit → Act → World → Prop} {a : Act} {w : World} {o : Oper} {l : List Oper} {x : Operand} (n : Nat) (hm : P.follows .mixedOrders = true) (hB : appB .any (o :: l).toArray n = true)
  (ho : o.op = .move x) (hg : o.guard = none) (hQ : ∀ v c a w, Q (.panic c) (a.put o.dst v) w → Q (.panic c) a w)
  (h : wpQuiet P (o :: l).toArray (fun w' => ∃ x, w' = ext w x) (fun a' => ∀ w', (∃ x, w' = ext w x) → wpList P (o :: l).toArray Q ((o :: l).drop n) a' w') ((o :: l).take n) a) : (Code.region id (o :: l).toArray true).wp P Q a w := by
 simp only [appB, Bool.and_eq_true, decide_eq_true_eq] at hB
 obtain ⟨⟨⟨⟨⟨⟨⟨hsel, hn⟩, h1⟩, hs⟩, hc⟩, hfr⟩, hrd⟩, hlex⟩ := hB
 have hn' : n < l.length + 1 := by simpa using hn
 have htl : (l.take (n - 1)).length = n - 1 := by simp; omega
 have hrun : ∀ w, (execOp a.eval o).run P w = .ok (.value (a.eval x)) w := fun w => by simp [execOp, ho, go_sem]
 have h : wpQuiet P (o :: l).toArray (fun w' => ∃ x, w' = ext w x) (fun a' => ∀ w', (∃ x, w' = ext w x) → wpList P (o :: l).toArray Q ((o :: l).drop n) a' w') (l.take (n - 1)) (a.put o.dst (a.eval x)) := by
  rw [show (o :: l).take n = o :: l.take (n - 1) by cases n; · omega
                                                    ·rfl] at h
  unfold wpQuiet at h
  rw [if_pos (by simp [Region.wanted, hg])] at h
  obtain ⟨v, g1, g2⟩ := h
  have g3 := g1 w (ext_of (Below.refl _ _))
  unfold Oper.quietAt at g3
  rw [hrun] at g3
  simp only [Oper.quietUpon] at g3
  rw [g3.2]
  exact g2
 have inv0 : HeadInv .any (o :: l).toArray n (Array.replicate (o :: l).toArray.size false) :=
  ⟨by simp, fun j oj _ hl => (by rw [getD_replicate_false] at hl; cases hl), fun t _ ht => getD_in (by simpa using ht) (getD_replicate_false _ _)⟩
 have hr0 : 0 ∈ Region.ready .any (o :: l).toArray (Array.replicate (o :: l).toArray.size false) := by simpa using hrd
 have inv1 := inv0.set hr0 (by omega)
 have H := headQ_lex_from (md := .any) (m := 1) (g := (o :: l).toArray.size - n) hsel hs hc hn (l.take (n - 1)) 1 _ (a.put o.dst (a.eval x)) (Nat.le_refl _) (fun j hj => by
  have hj' : j < n - 1 := by rw [htl] at hj; exact hj
  simp [hj', Nat.add_comm 1 j]) (by rw [htl]; omega) inv1 (by rw [htl]; exact hlex) h
 refine wp_region_any hm ?_
 have := any_of_headQ (Q := Q) (g := (o :: l).toArray.size - n) (fun listed a' w' hw hL => by
  have := wpAny_of_seq (md := .any) (Q' := Q) ((o :: l).drop n) n listed a' w' (fun j => by simp [List.getElem?_drop]) (by rw [show ((o :: l).drop n).length = (o :: l).toArray.size - n by simp]; exact hL.1) (hL.2 w' hw)
  rwa [show ((o :: l).drop n).length = (o :: l).toArray.size - n by simp] at this) _ _ _ { w with drawn := w.drawn + 1 } (ext_of (Below.refl _ _).drew) H
 rw [htl] at this
 have hsz : n - 1 + ((o :: l).toArray.size - n) + 1 = (o :: l).toArray.size := by omega
 have key := wpAny_take (Q := Q) (P := P) (i := 0) (oi := o) (v := a.eval x) (a := a) (listed := Array.replicate (o :: l).toArray.size false) (by simp) hsel hfr hrd (hQ _) (.inl ⟨by simp [Region.wanted, hg], hrun⟩) this
 rw [hsz] at key
 exact key
end
end Go.Proofs.YtkjljneehgmmaaaGreat

namespace Go.Proofs.YtkjljneehgmmaaaGreat
theorem world_mask {G : World → Prop} (P : World → Prop) (w : World) (hp : P w) (h : ∀ W1, P W1 → G W1) : G w := h w hp
end Go.Proofs.YtkjljneehgmmaaaGreat


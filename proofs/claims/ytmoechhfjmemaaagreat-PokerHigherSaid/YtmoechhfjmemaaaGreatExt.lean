/- A world that has grown: what was there stays, new blocks stand behind it. The laws by which a walk reads and writes through it. -/
import Derived.Test.YtmoechhfjmemaaaGreatRows
import Derived.WalkKit
import Derived.WalkSpells
import Derived.WalkLawsBesides
import Derived.Deep.QuietTactic
import Derived.BigQuiet
import Derived.Lib.Hide
import Derived.Outline
namespace Go.Proofs.YtmoechhfjmemaaaGreat
open Go.RowKit
set_option maxRecDepth 20000

/-- The world w, with the blocks of x behind its own, and with x's count of draws. -/
def ext (w x : World) : World := { heap := w.heap ++ x.heap, tape := w.tape, drawn := x.drawn, os := w.os, output := w.output }

theorem size_ext (w x : World) : (ext w x).heap.size = w.heap.size + x.heap.size := by simp [ext]

theorem heap_ext (w x : World) (k : Nat) (h : k < w.heap.size) : (ext w x).heap[k]? = w.heap[k]? := by
  show (w.heap ++ x.heap)[k]? = _
  rw [Array.getElem?_append_left h]

theorem ext_ext (w x y : World) : ext (ext w x) y = ext w (ext x y) := by simp [ext]
theorem drew_ext (w x : World) : (ext w x).drew = ext w x.drew := rfl
theorem ext_drew (w x : World) : ext w.drew x = ext w x := rfl

theorem below_ext (w x : World) : Below w.heap.size w (ext w x) :=
  ⟨rfl, rfl, rfl, by rw [size_ext]; omega, fun k hk => heap_ext w x k hk⟩

theorem ext_of {w w' : World} (h : Below w.heap.size w w') : ∃ x, w' = ext w x := by
  refine ⟨{ w' with heap := w'.heap.extract w.heap.size w'.heap.size }, ?_⟩
  obtain ⟨h1, h2, h3, h4, h5⟩ := h
  obtain ⟨heap, tape, drawn, os, output⟩ := w'
  simp only at h1 h2 h3 h4 h5
  subst h1 h2 h3
  simp only [ext, World.mk.injEq, and_true]
  apply Array.ext_getElem?
  intro k
  by_cases hk : k < w.heap.size
  · rw [Array.getElem?_append_left hk, h5 k hk]
  · rw [Array.getElem?_append_right (by omega), Array.getElem?_extract]
    by_cases hk2 : k < heap.size
    · rw [if_pos (by omega)]; congr 1; omega
    · rw [if_neg (by omega), Array.getElem?_eq_none (by omega)]

theorem cell_lt {w : World} {a : Addr} (h : (w.cell? a).isSome = true) : a.block < w.heap.size := by
  obtain ⟨u, hu⟩ := Option.isSome_iff_exists.1 h
  exact World.block_lt_of_cell? w a hu

/-- What a grown world holds at an address, where the elder one holds nothing. -/
def cellB (w x : World) (a : Addr) : Option Value := if a.block < w.heap.size then none else (ext w x).cell? a
def cellA (w : World) (o : Obj) (a : Addr) : Option Value := if a.block < w.heap.size then none else (w.alloc o).cell? a
theorem cell_none (w : World) (a : Addr) (h : ¬ a.block < w.heap.size) : w.cell? a = none := by
  unfold World.cell?; rw [Array.getElem?_eq_none (by omega)]
theorem cell_ext (w x : World) (a : Addr) : (ext w x).cell? a = (w.cell? a).or (cellB w x a) := by
  unfold cellB
  by_cases h : a.block < w.heap.size
  · rw [if_pos h, World.cell?_of_block (w := w) (heap_ext w x a.block h), Option.or_none]
  · rw [if_neg h, cell_none w a h, Option.none_or]
theorem cell_alloc (w : World) (o : Obj) (a : Addr) : (w.alloc o).cell? a = (w.cell? a).or (cellA w o a) := by
  unfold cellA
  by_cases h : a.block < w.heap.size
  · rw [if_pos h, World.cell?_alloc_lt w o a h, Option.or_none]
  · rw [if_neg h, cell_none w a h, Option.none_or]
theorem frozen_ext (w x : World) (a : Addr) (h : (w.cell? a).isSome = true) : (ext w x).frozen? a = w.frozen? a :=
  World.frozen?_of_block (w := w) (heap_ext w x a.block (cell_lt h))
theorem frozen_alloc_some (w : World) (o : Obj) (a : Addr) (h : (w.cell? a).isSome = true) : (w.alloc o).frozen? a = w.frozen? a :=
  World.frozen?_alloc_old w o a (Nat.ne_of_lt (cell_lt h))
theorem setCell_alloc_some (w : World) (o : Obj) (a : Addr) (v : Value) (h : (w.cell? a).isSome = true) : (w.alloc o).setCell a v = (w.setCell a v).alloc o := by
  have hl := cell_lt h
  unfold World.setCell World.alloc
  congr 1
  apply Array.ext_getElem?
  intro k
  simp only [Array.getElem?_modify, Array.getElem?_push, Array.size_modify]
  by_cases hk : k = w.heap.size
  · subst hk
    simp [Nat.ne_of_lt hl]
  · simp [hk]
theorem setCell_ext (w x : World) (a : Addr) (v : Value) (h : (w.cell? a).isSome = true) : (ext w x).setCell a v = ext (w.setCell a v) x := by
  have hl := cell_lt h
  unfold World.setCell ext
  congr 1
  apply Array.ext_getElem?
  intro k
  simp only [Array.getElem?_modify]
  by_cases hk : k < w.heap.size
  · rw [Array.getElem?_append_left hk, Array.getElem?_append_left (by simpa using hk), Array.getElem?_modify]
  · rw [Array.getElem?_append_right (by omega), Array.getElem?_append_right (by simpa using hk)]
    rw [if_neg (by omega)]
    simp

/-- What a call of ours leaves: the value, and a world that has only grown. -/
def Ret (w : World) (v : Value) (e : Ending) (w' : World) : Prop := e = .returned v ∧ ∃ x, w' = ext w x

theorem Ret.of {w w' : World} {v : Value} (h : Below w.heap.size w w') : Ret w v (.returned v) w' := ⟨rfl, ext_of h⟩

/-- A callee's contract, met in a grown world inside a region that draws its order. -/
theorem Calls.quiet_ext {P : Program} {f : FuncId} {args : Array Value} {w x : World} {v : Value}
    (h : Calls P f args (ext w x) (Ret (ext w x) v)) : Calls P f args (ext w x) fun e w'' => e = .returned v ∧ ∃ y, w'' = ext w y :=
  h.mono fun _ _ ⟨he, y, hy⟩ => ⟨he, ext x y, by rw [hy, ext_ext]⟩

/-- A region that draws its order, whose operations only read and whose callees only make memory: one walk in the order of the text. -/
theorem wp_region_grows {P : Program} {id : Nat} {Q : Exit → Act → World → Prop} {a : Act} {w : World} {l : List Oper} (hm : P.follows .mixedOrders = true) (hB : Region.lexB .any l.toArray = true)
    (h : wpQuiet P l.toArray (fun w' => ∃ x, w' = ext w x) (fun a' => ∀ w', (∃ x, w' = ext w x) → Q .normal a' w') l a) : (Code.region id l.toArray true).wp P Q a w :=
  wp_region_quiet (C := fun w' => ∃ x, w' = ext w x) hm hB (ext_of (Below.refl _ _).drew) (by simpa using h)

/-- Go's max and min of two integers, as Lean has them: no way to part. -/
theorem if_max (x y : Int) : (if x < y then y else x) = max x y := by omega
theorem if_min (x y : Int) : (if y < x then y else x) = min x y := by omega

attribute [go_sem] if_max if_min size_ext ext_drew frozen_ext frozen_alloc_some setCell_alloc_some setCell_ext
attribute [go_sem low] cell_ext cell_alloc
attribute [irreducible] ext

theorem grow_refl (w : World) : Below w.heap.size w w := Below.refl _ _
theorem grow_alloc {w a : World} (o : Obj) (h : Below w.heap.size w a) : Below w.heap.size w (a.alloc o) := h.alloc h.size o
theorem grow_ext {w a : World} (x : World) (h : Below w.heap.size w a) : Below w.heap.size w (ext a x) := h.trans ((below_ext a x).mono h.size)
theorem grow_drew {w a : World} (h : Below w.heap.size w a) : Below w.heap.size w a.drew := h.drew

end Go.Proofs.YtmoechhfjmemaaaGreat

/- Open, OpenC, OpenL, OpenS, OpenM in one text. -/
import Derived.Test.YtkjljneehgmmaaaGreatBoxK2
import Derived.ProofKit
import Derived.OpenShut
import Derived.Deep.Slices
import Derived.Deep.Fields
import Derived.ChangeSame
import Derived.ChangeOld
import Derived.Test.YtkjljneehgmmaaaGreatAaK1
import Derived.Test.YtkjljneehgmmaaaGreatAaK6
namespace Go.Proofs.YtkjljneehgmmaaaGreat
open Go.ChangeShapes Go.WideShapes Go.ChangeAt Go.RowKit Go.Deep
set_option maxRecDepth 20000
set_option maxRecDepth 100000

theorem own : ownKnob Tryz.prog.godebug = none := by kernel_rfl
theorem laidOut : laidOutB Tryz.prog = true := by kernel_rfl

theorem min_i32 : IntKind.i32.min = -2147483648 := by decide
theorem max_i32 : IntKind.i32.max = 2147483647 := by decide
theorem wf_i32 {n : Int} (h : (Lit.int .i32 n).wf = true) : -2147483648 ≤ n ∧ n ≤ 2147483647 := by
 simp only [Lit.wf, Bool.and_eq_true, decide_eq_true_eq, min_i32, max_i32] at h; exact h
theorem len2 {α : Type} {l : List α} (h : l.length = 2) : ∃ a b, l = [a, b] := by
 match l, h with
 | [a, b], _ => exact ⟨a, b, rfl⟩
theorem len3 {α : Type} {l : List α} (h : l.length = 3) : ∃ a b c, l = [a, b, c] := by
 match l, h with
 | [a, b, c], _ => exact ⟨a, b, c, rfl⟩
theorem len6 {α : Type} {l : List α} (h : l.length = 6) : ∃ a b c d e f, l = [a, b, c, d, e, f] := by
 match l, h with
 | [a, b, c, d, e, f], _ => exact ⟨a, b, c, d, e, f, rfl⟩
theorem cells_int : Tryz.prog.cellsOf 3 = 1 := by kernel_rfl
theorem cells_point : Tryz.prog.cellsOf 38 = 3 := by kernel_rfl
theorem cells_box : Tryz.prog.cellsOf 40 = 6 := by kernel_rfl

section
variable {H : Type} {enc : TypeId × Value → H} {w : World} {base : Nat} {spare : Nat → Bool} {held : Bool}
theorem point_cells {fuel : Nat} {l : List Value} {x : DataW H × List MemPlace} (h : DataW.trod enc Tryz.prog w base spare held fuel 38 l = some x) :
  ∃ a b c : Int, l = [.int .i64 a, .int .i64 b, .int .i64 c] ∧ (Lit.int .i64 a).wf = true ∧ (Lit.int .i64 b).wf = true ∧ (Lit.int .i64 c).wf = true := by
 obtain ⟨xs, n, _, _, hl, hlen, hg⟩ := DataW.trod_struct Tryz.underlying38 h
 rw [cells_point] at hl
 obtain ⟨c0, c1, c2, rfl⟩ := len3 hl
 obtain ⟨y0, y1, y2, rfl⟩ := len3 hlen
 have f0 : DataW.trod enc Tryz.prog w base spare held n 3 (([c0, c1, c2].drop 0).take (Tryz.prog.cellsOf 3)) = some y0 := hg 0 _ rfl
 have f1 : DataW.trod enc Tryz.prog w base spare held n 3 (([c0, c1, c2].drop 1).take (Tryz.prog.cellsOf 3)) = some y1 := hg 1 _ rfl
 have f2 : DataW.trod enc Tryz.prog w base spare held n 3 (([c0, c1, c2].drop 2).take (Tryz.prog.cellsOf 3)) = some y2 := hg 2 _ rfl
 clear hg h
 rw [cells_int] at f0 f1 f2
 obtain ⟨a, e0, _, w0⟩ := DataW.trod_int Tryz.underlying3 f0
 obtain ⟨b, e1, _, w1⟩ := DataW.trod_int Tryz.underlying3 f1
 obtain ⟨c, e2, _, w2⟩ := DataW.trod_int Tryz.underlying3 f2
 simp at e0 e1 e2
 subst e0 e1 e2
 exact ⟨a, b, c, rfl, w0, w1, w2⟩

theorem box_cells {fuel : Nat} {l : List Value} {x : DataW H × List MemPlace} (h : DataW.trod enc Tryz.prog w base spare held fuel 40 l = some x) :
  ∃ b : Bx, l = [.int .i64 b.lx, .int .i64 b.ly, .int .i64 b.lz, .int .i64 b.hx, .int .i64 b.hy, .int .i64 b.hz] := by
 obtain ⟨xs, n, _, _, hl, hlen, hg⟩ := DataW.trod_struct Tryz.underlying40 h
 rw [cells_box] at hl
 obtain ⟨c0, c1, c2, c3, c4, c5, rfl⟩ := len6 hl
 obtain ⟨y0, y1, rfl⟩ := len2 hlen
 have f0 : DataW.trod enc Tryz.prog w base spare held n 38 (([c0, c1, c2, c3, c4, c5].drop 0).take (Tryz.prog.cellsOf 38)) = some y0 := hg 0 _ rfl
 have f1 : DataW.trod enc Tryz.prog w base spare held n 38 (([c0, c1, c2, c3, c4, c5].drop 3).take (Tryz.prog.cellsOf 38)) = some y1 := hg 1 _ rfl
 clear hg h
 rw [cells_point] at f0 f1
 obtain ⟨a0, a1, a2, e0, _⟩ := point_cells f0
 obtain ⟨b0, b1, b2, e1, _⟩ := point_cells f1
 simp at e0 e1
 obtain ⟨rfl, rfl, rfl⟩ := e0
 obtain ⟨rfl, rfl, rfl⟩ := e1
 exact ⟨⟨a0, a1, a2, b0, b1, b2⟩, rfl⟩

theorem spot_none {w : World} {a : Addr} {v : Value} (h : w.cell? a = some v) : a.spot = none := by
 unfold World.cell? at h
 split at h
 ·cases hs : a.spot with
  | none => rfl
  | some s => rw [hs] at h; simp at h
 ·simp at h
theorem add_off {a : Addr} (h : a.spot = none) (n : Nat) : a.add n = ⟨a.block, a.off + n, none⟩ := by
 obtain ⟨b, o, s⟩ := a
 simp only at h
 subst h
 unfold Addr.add
 split
 ·rename_i h0; subst h0; rfl
 ·rfl

def boxRow (b : Bx) : List Value := [.int .i64 b.lx, .int .i64 b.ly, .int .i64 b.lz, .int .i64 b.hx, .int .i64 b.hy, .int .i64 b.hz]
end
end Go.Proofs.YtkjljneehgmmaaaGreat

namespace Go.Proofs.YtkjljneehgmmaaaGreat
open Go.ChangeShapes Go.WideShapes Go.ChangeAt Go.RowKit Go.Deep
set_option maxRecDepth 20000

section
variable {H : Type} {enc : TypeId × Value → H} {w : World} {base : Nat} {spare : Nat → Bool} {held : Bool}

set_option maxRecDepth 100000 in
theorem cells_slice_of {α : Type} {e t : TypeId} {n : Nat} {enc' : α → List Value} (hn : 0 < n) (ht : Tryz.prog.underlying t = some (.slice e)) (hC : Tryz.prog.cellsOf e = n)
  (hel : ∀ (fuel : Nat) (cs : List Value) (x : DataW H × List MemPlace), DataW.trod enc Tryz.prog w base spare held fuel e cs = some x → ∃ y : α, cs = enc' y)
  {fuel : Nat} {cs : List Value} {x : DataW H × List MemPlace} (hf : DataW.trod enc Tryz.prog w base spare held fuel t cs = some x) :
  ∃ (l : List α) (a : Option Addr) (cap : Nat), cs = [.slice a l.length cap] ∧ l.length ≤ cap ∧ cap ≤ 9223372036854775807 ∧
   ∀ i (hi : i < l.length), ∃ b off, a = some ⟨b, off, none⟩ ∧ (enc' l[i]).length = n ∧ ∀ j, j < n → w.cell? ⟨b, off + i * n + j, none⟩ = (enc' l[i])[j]? := by
 rcases open_slice ht hf with ⟨hcs, _⟩ | ⟨a', len, cap, m, n', D, Pl, hcs, hb, hl, hm, hmm, hx, hi⟩
 ·exact ⟨[], none, 0, hcs, Nat.le_refl _, by omega, fun i hi => absurd hi (by simp)⟩
 ·have hle : len ≤ m := by rw [hmm]; split <;> omega
  unfold maxLen at hm
  have hall : ∀ i, i < len → ∃ y : α, w.cells? base (a'.add (i * n)) n = some (enc' y) := fun i hil => by
   obtain ⟨cs', hc, ht'⟩ := hi i (by omega)
   rw [hC] at hc
   obtain ⟨y, rfl⟩ := hel _ _ _ ht'
   exact ⟨y, hc⟩
  rcases Nat.eq_zero_or_pos len with rfl | hpos
  ·exact ⟨[], some a', cap, hcs, Nat.zero_le _, hm, fun i hi => absurd hi (by simp)⟩
  ·obtain ⟨y0, hy0⟩ := hall 0 hpos
   have hsp : a'.spot = none := by
    obtain ⟨_, hlen, hat⟩ := World.cells?_some hy0
    have h0 := hat 0 hn
    have : (enc' y0)[0]? = some ((enc' y0)[0]'(by omega)) := List.getElem?_eq_getElem (by omega)
    rw [this] at h0
    simpa [Addr.add] using spot_none h0
   haveI : Inhabited α := ⟨y0⟩
   obtain ⟨f, hf⟩ := choose_lt hall
   refine ⟨(List.range len).map f, some a', cap, by simpa using hcs, by simpa using hl, hm, fun i hil => ⟨a'.block, a'.off, ?_, ?_, fun j hj => ?_⟩⟩
   ·obtain ⟨x, y, z⟩ := a'; simp only at hsp; subst hsp; rfl
   ·obtain ⟨_, hlen, _⟩ := World.cells?_some (hf i (by simpa using hil))
    simpa using hlen
   ·obtain ⟨_, hlen, hat⟩ := World.cells?_some (hf i (by simpa using hil))
    have := hat j hj
    rw [add_off hsp, add_off rfl] at this
    simpa [Nat.add_assoc] using this
end
end Go.Proofs.YtkjljneehgmmaaaGreat

namespace Go.Proofs.YtkjljneehgmmaaaGreat
open Go.ChangeShapes Go.WideShapes Go.ChangeAt Go.RowKit Go.Deep
set_option maxRecDepth 20000
set_option maxRecDepth 100000

section
variable {H : Type} {enc : TypeId × Value → H} {w : World} {base : Nat} {spare : Nat → Bool} {held : Bool}
theorem len5L {α : Type} {l : List α} (h : l.length = 5) : ∃ a b c d e, l = [a, b, c, d, e] := by
 match l, h with
 | [a, b, c, d, e], _ => exact ⟨a, b, c, d, e, rfl⟩
theorem len10 {α : Type} {l : List α} (h : l.length = 10) : ∃ a b c d e f g i j k, l = [a, b, c, d, e, f, g, i, j, k] := by
 match l, h with
 | [a, b, c, d, e, f, g, i, j, k], _ => exact ⟨a, b, c, d, e, f, g, i, j, k, rfl⟩
theorem cells_stringL : Tryz.prog.cellsOf 9 = 1 := by kernel_rfl
theorem cells_intsL : Tryz.prog.cellsOf 48 = 1 := by kernel_rfl
theorem cells_barL : Tryz.prog.cellsOf 81 = 5 := by kernel_rfl
theorem cells_turnL : Tryz.prog.cellsOf 116 = 2 := by kernel_rfl
theorem cells_runL : Tryz.prog.cellsOf 118 = 10 := by kernel_rfl

theorem dims_cellsL {fuel : Nat} {l : List Value} {x : DataW H × List MemPlace} (h : DataW.trod enc Tryz.prog w base spare held fuel 48 l = some x) :
  ∃ v ds, l = [v] ∧ Dims w v ds := by
 obtain ⟨l, a, cap, hcs, h1, h2, h3⟩ := cells_slice_of (n := 1) (enc' := fun i : Int => [.int .i64 i]) (by decide) Tryz.underlying48 cells_int (fun fuel cs x hx => by
  obtain ⟨b, hb, _, _⟩ := DataW.trod_int Tryz.underlying3 hx
  exact ⟨b, hb⟩) h
 refine ⟨_, l, hcs, a, cap, rfl, h1, h2, fun i hi => ?_⟩
 obtain ⟨b, off, e, _, hc⟩ := h3 i hi
 refine ⟨b, off, e, ?_⟩
 have := hc 0 (by decide)
 simpa using this

theorem bar_cellsL {fuel : Nat} {l : List Value} {x : DataW H × List MemPlace} (h : DataW.trod enc Tryz.prog w base spare held fuel 81 l = some x) :
  ∃ b : Br, l = [.string b.mark, .int .i64 b.size, .int .i64 b.count, .int .i64 b.code, b.dv] ∧ BrOk w b := by
 obtain ⟨xs, n, _, _, hl, hlen, hg⟩ := DataW.trod_struct Tryz.underlying81 h
 rw [cells_barL] at hl
 obtain ⟨c0, c1, c2, c3, c4, rfl⟩ := len5L hl
 obtain ⟨y0, y1, y2, y3, y4, rfl⟩ := len5L hlen
 have f0 : DataW.trod enc Tryz.prog w base spare held n 9 (([c0, c1, c2, c3, c4].drop 0).take (Tryz.prog.cellsOf 9)) = some y0 := hg 0 _ rfl
 have f1 : DataW.trod enc Tryz.prog w base spare held n 3 (([c0, c1, c2, c3, c4].drop 1).take (Tryz.prog.cellsOf 3)) = some y1 := hg 1 _ rfl
 have f2 : DataW.trod enc Tryz.prog w base spare held n 3 (([c0, c1, c2, c3, c4].drop 2).take (Tryz.prog.cellsOf 3)) = some y2 := hg 2 _ rfl
 have f3 : DataW.trod enc Tryz.prog w base spare held n 3 (([c0, c1, c2, c3, c4].drop 3).take (Tryz.prog.cellsOf 3)) = some y3 := hg 3 _ rfl
 have f4 : DataW.trod enc Tryz.prog w base spare held n 48 (([c0, c1, c2, c3, c4].drop 4).take (Tryz.prog.cellsOf 48)) = some y4 := hg 4 _ rfl
 clear hg h
 rw [cells_stringL] at f0
 rw [cells_int] at f1 f2 f3
 rw [cells_intsL] at f4
 obtain ⟨a, e0, _, w0⟩ := DataW.trod_string Tryz.underlying9 f0
 obtain ⟨b, e1, _, _⟩ := DataW.trod_int Tryz.underlying3 f1
 obtain ⟨c, e2, _, _⟩ := DataW.trod_int Tryz.underlying3 f2
 obtain ⟨d, e3, _, _⟩ := DataW.trod_int Tryz.underlying3 f3
 obtain ⟨v, ds, e4, hd⟩ := dims_cellsL f4
 simp at e0 e1 e2 e3 e4
 subst e0 e1 e2 e3 e4
 exact ⟨⟨a, b, c, d, ds, _⟩, rfl, w0, hd⟩

theorem turn_cellsL {fuel : Nat} {l : List Value} {x : DataW H × List MemPlace} (h : DataW.trod enc Tryz.prog w base spare held fuel 116 l = some x) :
  ∃ a b : Int, l = [.int .i64 a, .int .i64 b] := by
 obtain ⟨xs, n, _, _, hl, hlen, hg⟩ := DataW.trod_struct Tryz.underlying116 h
 rw [cells_turnL] at hl
 obtain ⟨c0, c1, rfl⟩ := len2 hl
 obtain ⟨y0, y1, rfl⟩ := len2 hlen
 have f0 : DataW.trod enc Tryz.prog w base spare held n 3 (([c0, c1].drop 0).take (Tryz.prog.cellsOf 3)) = some y0 := hg 0 _ rfl
 have f1 : DataW.trod enc Tryz.prog w base spare held n 3 (([c0, c1].drop 1).take (Tryz.prog.cellsOf 3)) = some y1 := hg 1 _ rfl
 clear hg h
 rw [cells_int] at f0 f1
 obtain ⟨a, e0, _, _⟩ := DataW.trod_int Tryz.underlying3 f0
 obtain ⟨b, e1, _, _⟩ := DataW.trod_int Tryz.underlying3 f1
 simp at e0 e1
 subst e0 e1
 exact ⟨a, b, rfl⟩

theorem run_cellsL {fuel : Nat} {l : List Value} {x : DataW H × List MemPlace} (h : DataW.trod enc Tryz.prog w base spare held fuel 118 l = some x) :
  ∃ r : Rn, r.mark.size ≤ 9223372036854775807 ∧ l = [.string r.mark, .int .i64 r.tx, .int .i64 r.ty, .int .i64 r.ax, .int .i64 r.ay, .int .i64 r.az, .int .i64 r.sx, .int .i64 r.sy, .int .i64 r.sz, .int .i64 r.count] := by
 obtain ⟨xs, n, _, _, hl, hlen, hg⟩ := DataW.trod_struct Tryz.underlying118 h
 rw [cells_runL] at hl
 obtain ⟨c0, c1, c2, c3, c4, c5, c6, c7, c8, c9, rfl⟩ := len10 hl
 obtain ⟨y0, y1, y2, y3, y4, rfl⟩ := len5L hlen
 have f0 : DataW.trod enc Tryz.prog w base spare held n 9 (([c0, c1, c2, c3, c4, c5, c6, c7, c8, c9].drop 0).take (Tryz.prog.cellsOf 9)) = some y0 := hg 0 _ rfl
 have f1 : DataW.trod enc Tryz.prog w base spare held n 116 (([c0, c1, c2, c3, c4, c5, c6, c7, c8, c9].drop 1).take (Tryz.prog.cellsOf 116)) = some y1 := hg 1 _ rfl
 have f2 : DataW.trod enc Tryz.prog w base spare held n 38 (([c0, c1, c2, c3, c4, c5, c6, c7, c8, c9].drop 3).take (Tryz.prog.cellsOf 38)) = some y2 := hg 2 _ rfl
 have f3 : DataW.trod enc Tryz.prog w base spare held n 38 (([c0, c1, c2, c3, c4, c5, c6, c7, c8, c9].drop 6).take (Tryz.prog.cellsOf 38)) = some y3 := hg 3 _ rfl
 have f4 : DataW.trod enc Tryz.prog w base spare held n 3 (([c0, c1, c2, c3, c4, c5, c6, c7, c8, c9].drop 9).take (Tryz.prog.cellsOf 3)) = some y4 := hg 4 _ rfl
 clear hg h
 rw [cells_stringL] at f0
 rw [cells_turnL] at f1
 rw [cells_point] at f2 f3
 rw [cells_int] at f4
 obtain ⟨a, e0, _, w0⟩ := DataW.trod_string Tryz.underlying9 f0
 obtain ⟨tx, ty, e1⟩ := turn_cellsL f1
 obtain ⟨ax, ay, az, e2, _⟩ := point_cells f2
 obtain ⟨sx, sy, sz, e3, _⟩ := point_cells f3
 obtain ⟨b, e4, _, _⟩ := DataW.trod_int Tryz.underlying3 f4
 simp at e0 e1 e2 e3 e4
 obtain ⟨rfl, rfl⟩ := e1
 obtain ⟨rfl, rfl, rfl⟩ := e2
 obtain ⟨rfl, rfl, rfl⟩ := e3
 subst e0 e4
 exact ⟨⟨a, tx, ty, ax, ay, az, sx, sy, sz, b⟩, w0, rfl⟩

def barRow (b : {b : Br // BrOk w b}) : List Value := [.string b.1.mark, .int .i64 b.1.size, .int .i64 b.1.count, .int .i64 b.1.code, b.1.dv]
def runRow (r : {r : Rn // r.mark.size ≤ 9223372036854775807}) : List Value := [.string r.1.mark, .int .i64 r.1.tx, .int .i64 r.1.ty, .int .i64 r.1.ax, .int .i64 r.1.ay, .int .i64 r.1.az, .int .i64 r.1.sx, .int .i64 r.1.sy, .int .i64 r.1.sz, .int .i64 r.1.count]
end
end Go.Proofs.YtkjljneehgmmaaaGreat

namespace Go.Proofs.YtkjljneehgmmaaaGreat
open Go.ChangeShapes Go.WideShapes Go.ChangeAt Go.RowKit Go.Deep
set_option maxRecDepth 20000

section
variable {H : Type} {enc : TypeId × Value → H} {w : World} {base : Nat} {spare : Nat → Bool} {held : Bool}

theorem boxes_cells {fuel : Nat} {l : List Value} {x : DataW H × List MemPlace} (h : DataW.trod enc Tryz.prog w base spare held fuel 22 l = some x) :
  ∃ v bs, l = [v] ∧ Boxes w v bs := by
 obtain ⟨l, a, cap, hcs, h1, h2, h3⟩ := cells_slice_of (n := 6) (enc' := boxRow) (by decide) Tryz.underlying22 cells_box (fun fuel cs x hx => by
  obtain ⟨b, hb⟩ := box_cells hx
  exact ⟨b, hb⟩) h
 refine ⟨_, l, hcs, a, cap, rfl, h1, h2, fun i hi => ?_⟩
 obtain ⟨b, off, e, _, hc⟩ := h3 i hi
 exact ⟨b, off, e, hc 0 (by decide), hc 1 (by decide), hc 2 (by decide), hc 3 (by decide), hc 4 (by decide), hc 5 (by decide)⟩

theorem cells_boxes : Tryz.prog.cellsOf 22 = 1 := by kernel_rfl
theorem cells_solid : Tryz.prog.cellsOf 24 = 2 := by kernel_rfl
theorem solid_cells {fuel : Nat} {l : List Value} {x : DataW H × List MemPlace} (h : DataW.trod enc Tryz.prog w base spare held fuel 24 l = some x) :
  ∃ v u bs hs, l = [v, u] ∧ Boxes w v bs ∧ Boxes w u hs := by
 obtain ⟨xs, n, _, _, hl, hlen, hg⟩ := DataW.trod_struct Tryz.underlying24 h
 rw [cells_solid] at hl
 obtain ⟨c0, c1, rfl⟩ := len2 hl
 obtain ⟨y0, y1, rfl⟩ := len2 hlen
 have f0 : DataW.trod enc Tryz.prog w base spare held n 22 (([c0, c1].drop 0).take (Tryz.prog.cellsOf 22)) = some y0 := hg 0 _ rfl
 have f1 : DataW.trod enc Tryz.prog w base spare held n 22 (([c0, c1].drop 1).take (Tryz.prog.cellsOf 22)) = some y1 := hg 1 _ rfl
 clear hg h
 rw [cells_boxes] at f0 f1
 obtain ⟨v, bs, e0, hb⟩ := boxes_cells f0
 obtain ⟨u, hs, e1, hh⟩ := boxes_cells f1
 simp at e0 e1
 subst e0 e1
 exact ⟨_, _, bs, hs, rfl, hb, hh⟩

end
end Go.Proofs.YtkjljneehgmmaaaGreat

namespace Go.Proofs.YtkjljneehgmmaaaGreat
open Go.ChangeShapes Go.WideShapes Go.ChangeAt Go.RowKit Go.Deep
set_option maxRecDepth 20000

section
variable {H : Type} {enc : TypeId × Value → H} {w : World} {base : Nat} {spare : Nat → Bool} {held : Bool}
theorem len5 {α : Type} {l : List α} (h : l.length = 5) : ∃ a b c d e, l = [a, b, c, d, e] := by
 match l, h with
 | [a, b, c, d, e], _ => exact ⟨a, b, c, d, e, rfl⟩
theorem cells_string' : Tryz.prog.cellsOf 9 = 1 := by kernel_rfl
theorem cells_member : Tryz.prog.cellsOf 26 = 6 := by kernel_rfl
theorem member_cells {fuel : Nat} {l : List Value} {x : DataW H × List MemPlace} (h : DataW.trod enc Tryz.prog w base spare held fuel 26 l = some x) :
  ∃ m : Mb, l = [.string m.name, m.u, m.t, .int .i64 m.cover, .int .i64 m.agg, .int .i64 m.poker] ∧ MbAt w m := by
 obtain ⟨xs, n, _, _, hl, hlen, hg⟩ := DataW.trod_struct Tryz.underlying26 h
 rw [cells_member] at hl
 obtain ⟨c0, c1, c2, c3, c4, c5, rfl⟩ := len6 hl
 obtain ⟨y0, y1, y2, y3, y4, rfl⟩ := len5 hlen
 have f0 : DataW.trod enc Tryz.prog w base spare held n 9 (([c0, c1, c2, c3, c4, c5].drop 0).take (Tryz.prog.cellsOf 9)) = some y0 := hg 0 _ rfl
 have f1 : DataW.trod enc Tryz.prog w base spare held n 24 (([c0, c1, c2, c3, c4, c5].drop 1).take (Tryz.prog.cellsOf 24)) = some y1 := hg 1 _ rfl
 have f2 : DataW.trod enc Tryz.prog w base spare held n 3 (([c0, c1, c2, c3, c4, c5].drop 3).take (Tryz.prog.cellsOf 3)) = some y2 := hg 2 _ rfl
 have f3 : DataW.trod enc Tryz.prog w base spare held n 3 (([c0, c1, c2, c3, c4, c5].drop 4).take (Tryz.prog.cellsOf 3)) = some y3 := hg 3 _ rfl
 have f4 : DataW.trod enc Tryz.prog w base spare held n 3 (([c0, c1, c2, c3, c4, c5].drop 5).take (Tryz.prog.cellsOf 3)) = some y4 := hg 4 _ rfl
 clear hg h
 rw [cells_string'] at f0
 rw [cells_solid] at f1
 rw [cells_int] at f2 f3 f4
 obtain ⟨a, e0, _, w0⟩ := DataW.trod_string Tryz.underlying9 f0
 obtain ⟨v, u, bs, hs, e1, hb, hh⟩ := solid_cells f1
 obtain ⟨b, e2, _, _⟩ := DataW.trod_int Tryz.underlying3 f2
 obtain ⟨c, e3, _, _⟩ := DataW.trod_int Tryz.underlying3 f3
 obtain ⟨d, e4, _, _⟩ := DataW.trod_int Tryz.underlying3 f4
 simp at e0 e1 e2 e3 e4
 obtain ⟨rfl, rfl⟩ := e1
 subst e0 e2 e3 e4
 exact ⟨⟨a, bs, hs, _, _, b, c, d⟩, rfl, w0, hb, hh⟩

end
end Go.Proofs.YtkjljneehgmmaaaGreat


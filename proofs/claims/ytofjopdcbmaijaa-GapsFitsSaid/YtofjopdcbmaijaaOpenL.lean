/- Bars and runs among the arguments, opened. -/
import Derived.Test.YtofjopdcbmaijaaOpenC
import Derived.Test.YtofjopdcbmaijaaLaidA
namespace Go.Proofs.Ytofjopdcbmaijaa
open Go.ChangeShapes Go.WideShapes Go.ChangeAt Go.RowKit Go.Deep
set_option maxRecDepth 20000

section
variable {H : Type} {enc : TypeId × Value → H} {w : World} {base : Nat} {spare : Nat → Bool} {held : Bool}
theorem len5L {α : Type} {l : List α} (h : l.length = 5) : ∃ a b c d e, l = [a, b, c, d, e] := by
  match l, h with
  | [a, b, c, d, e], _ => exact ⟨a, b, c, d, e, rfl⟩
theorem len10 {α : Type} {l : List α} (h : l.length = 10) : ∃ a b c d e f g i j k, l = [a, b, c, d, e, f, g, i, j, k] := by
  match l, h with
  | [a, b, c, d, e, f, g, i, j, k], _ => exact ⟨a, b, c, d, e, f, g, i, j, k, rfl⟩
theorem cells_stringL : Try.prog.cellsOf 9 = 1 := by kernel_rfl
theorem cells_intsL : Try.prog.cellsOf 32 = 1 := by kernel_rfl
theorem cells_barL : Try.prog.cellsOf 34 = 5 := by kernel_rfl
theorem cells_turnL : Try.prog.cellsOf 37 = 2 := by kernel_rfl
theorem cells_runL : Try.prog.cellsOf 41 = 10 := by kernel_rfl

theorem dims_cellsL {fuel : Nat} {l : List Value} {x : DataW H × List MemPlace} (h : DataW.trod enc Try.prog w base spare held fuel 32 l = some x) :
    ∃ v ds, l = [v] ∧ Dims w v ds := by
  obtain ⟨l, a, cap, hcs, h1, h2, h3⟩ := cells_slice_of (n := 1) (enc' := fun i : Int => [.int .i64 i]) (by decide) Try.underlying32 cells_int (fun fuel cs x hx => by
    obtain ⟨b, hb, _, _⟩ := DataW.trod_int Try.underlying3 hx
    exact ⟨b, hb⟩) h
  refine ⟨_, l, hcs, a, cap, rfl, h1, h2, fun i hi => ?_⟩
  obtain ⟨b, off, e, _, hc⟩ := h3 i hi
  refine ⟨b, off, e, ?_⟩
  have := hc 0 (by decide)
  simpa using this

theorem bar_cellsL {fuel : Nat} {l : List Value} {x : DataW H × List MemPlace} (h : DataW.trod enc Try.prog w base spare held fuel 34 l = some x) :
    ∃ b : Br, l = [.string b.mark, .int .i64 b.size, .int .i64 b.count, .int .i64 b.code, b.dv] ∧ BrOk w b := by
  obtain ⟨xs, n, _, _, hl, hlen, hg⟩ := DataW.trod_struct Try.underlying34 h
  rw [cells_barL] at hl
  obtain ⟨c0, c1, c2, c3, c4, rfl⟩ := len5L hl
  obtain ⟨y0, y1, y2, y3, y4, rfl⟩ := len5L hlen
  have f0 : DataW.trod enc Try.prog w base spare held n 9 (([c0, c1, c2, c3, c4].drop 0).take (Try.prog.cellsOf 9)) = some y0 := hg 0 _ rfl
  have f1 : DataW.trod enc Try.prog w base spare held n 3 (([c0, c1, c2, c3, c4].drop 1).take (Try.prog.cellsOf 3)) = some y1 := hg 1 _ rfl
  have f2 : DataW.trod enc Try.prog w base spare held n 3 (([c0, c1, c2, c3, c4].drop 2).take (Try.prog.cellsOf 3)) = some y2 := hg 2 _ rfl
  have f3 : DataW.trod enc Try.prog w base spare held n 3 (([c0, c1, c2, c3, c4].drop 3).take (Try.prog.cellsOf 3)) = some y3 := hg 3 _ rfl
  have f4 : DataW.trod enc Try.prog w base spare held n 32 (([c0, c1, c2, c3, c4].drop 4).take (Try.prog.cellsOf 32)) = some y4 := hg 4 _ rfl
  clear hg h
  rw [cells_stringL] at f0
  rw [cells_int] at f1 f2 f3
  rw [cells_intsL] at f4
  obtain ⟨a, e0, _, w0⟩ := DataW.trod_string Try.underlying9 f0
  obtain ⟨b, e1, _, _⟩ := DataW.trod_int Try.underlying3 f1
  obtain ⟨c, e2, _, _⟩ := DataW.trod_int Try.underlying3 f2
  obtain ⟨d, e3, _, _⟩ := DataW.trod_int Try.underlying3 f3
  obtain ⟨v, ds, e4, hd⟩ := dims_cellsL f4
  simp at e0 e1 e2 e3 e4
  subst e0 e1 e2 e3 e4
  exact ⟨⟨a, b, c, d, ds, _⟩, rfl, w0, hd⟩

theorem turn_cellsL {fuel : Nat} {l : List Value} {x : DataW H × List MemPlace} (h : DataW.trod enc Try.prog w base spare held fuel 37 l = some x) :
    ∃ a b : Int, l = [.int .i64 a, .int .i64 b] := by
  obtain ⟨xs, n, _, _, hl, hlen, hg⟩ := DataW.trod_struct Try.underlying37 h
  rw [cells_turnL] at hl
  obtain ⟨c0, c1, rfl⟩ := len2 hl
  obtain ⟨y0, y1, rfl⟩ := len2 hlen
  have f0 : DataW.trod enc Try.prog w base spare held n 3 (([c0, c1].drop 0).take (Try.prog.cellsOf 3)) = some y0 := hg 0 _ rfl
  have f1 : DataW.trod enc Try.prog w base spare held n 3 (([c0, c1].drop 1).take (Try.prog.cellsOf 3)) = some y1 := hg 1 _ rfl
  clear hg h
  rw [cells_int] at f0 f1
  obtain ⟨a, e0, _, _⟩ := DataW.trod_int Try.underlying3 f0
  obtain ⟨b, e1, _, _⟩ := DataW.trod_int Try.underlying3 f1
  simp at e0 e1
  subst e0 e1
  exact ⟨a, b, rfl⟩

theorem run_cellsL {fuel : Nat} {l : List Value} {x : DataW H × List MemPlace} (h : DataW.trod enc Try.prog w base spare held fuel 41 l = some x) :
    ∃ r : Rn, r.mark.size ≤ 9223372036854775807 ∧ l = [.string r.mark, .int .i64 r.tx, .int .i64 r.ty, .int .i64 r.ax, .int .i64 r.ay, .int .i64 r.az, .int .i64 r.sx, .int .i64 r.sy, .int .i64 r.sz, .int .i64 r.count] := by
  obtain ⟨xs, n, _, _, hl, hlen, hg⟩ := DataW.trod_struct Try.underlying41 h
  rw [cells_runL] at hl
  obtain ⟨c0, c1, c2, c3, c4, c5, c6, c7, c8, c9, rfl⟩ := len10 hl
  obtain ⟨y0, y1, y2, y3, y4, rfl⟩ := len5L hlen
  have f0 : DataW.trod enc Try.prog w base spare held n 9 (([c0, c1, c2, c3, c4, c5, c6, c7, c8, c9].drop 0).take (Try.prog.cellsOf 9)) = some y0 := hg 0 _ rfl
  have f1 : DataW.trod enc Try.prog w base spare held n 37 (([c0, c1, c2, c3, c4, c5, c6, c7, c8, c9].drop 1).take (Try.prog.cellsOf 37)) = some y1 := hg 1 _ rfl
  have f2 : DataW.trod enc Try.prog w base spare held n 39 (([c0, c1, c2, c3, c4, c5, c6, c7, c8, c9].drop 3).take (Try.prog.cellsOf 39)) = some y2 := hg 2 _ rfl
  have f3 : DataW.trod enc Try.prog w base spare held n 39 (([c0, c1, c2, c3, c4, c5, c6, c7, c8, c9].drop 6).take (Try.prog.cellsOf 39)) = some y3 := hg 3 _ rfl
  have f4 : DataW.trod enc Try.prog w base spare held n 3 (([c0, c1, c2, c3, c4, c5, c6, c7, c8, c9].drop 9).take (Try.prog.cellsOf 3)) = some y4 := hg 4 _ rfl
  clear hg h
  rw [cells_stringL] at f0
  rw [cells_turnL] at f1
  rw [cells_point] at f2 f3
  rw [cells_int] at f4
  obtain ⟨a, e0, _, w0⟩ := DataW.trod_string Try.underlying9 f0
  obtain ⟨tx, ty, e1⟩ := turn_cellsL f1
  obtain ⟨ax, ay, az, e2, _⟩ := point_cells f2
  obtain ⟨sx, sy, sz, e3, _⟩ := point_cells f3
  obtain ⟨b, e4, _, _⟩ := DataW.trod_int Try.underlying3 f4
  simp at e0 e1 e2 e3 e4
  obtain ⟨rfl, rfl⟩ := e1
  obtain ⟨rfl, rfl, rfl⟩ := e2
  obtain ⟨rfl, rfl, rfl⟩ := e3
  subst e0 e4
  exact ⟨⟨a, tx, ty, ax, ay, az, sx, sy, sz, b⟩, w0, rfl⟩

def barRow (b : {b : Br // BrOk w b}) : List Value := [.string b.1.mark, .int .i64 b.1.size, .int .i64 b.1.count, .int .i64 b.1.code, b.1.dv]
set_option maxRecDepth 100000 in
theorem open_bars {r : Reach} {b0 : Nat} {v : Value} {d : DataW H} {p : List MemPlace} (hv : Value.okWide Try.prog w r b0 35 v) (h : DataW.Trod enc Try.prog w base spare held 35 v d p) :
    ∃ l : List Br, Bars w v l := by
  obtain ⟨l, a, cap, rfl, h1, h2, h3⟩ := open_slice_of (n := 5) (enc' := barRow (w := w)) (by decide) Try.underlying35 cells_barL (fun fuel cs x hx => by
    obtain ⟨f, hb, hn⟩ := bar_cellsL hx
    exact ⟨⟨f, hn⟩, hb⟩) hv h
  refine ⟨l.map (·.1), a, cap, by simp, by simpa using h1, h2, fun i hi => ?_⟩
  have hi' : i < l.length := by simpa using hi
  obtain ⟨b, off, e, _, hc⟩ := h3 i hi'
  rw [List.getElem_map]
  exact ⟨l[i].2, b, off, e, hc 0 (by decide), hc 1 (by decide), hc 2 (by decide), hc 3 (by decide), hc 4 (by decide)⟩

def runRow (r : {r : Rn // r.mark.size ≤ 9223372036854775807}) : List Value := [.string r.1.mark, .int .i64 r.1.tx, .int .i64 r.1.ty, .int .i64 r.1.ax, .int .i64 r.1.ay, .int .i64 r.1.az, .int .i64 r.1.sx, .int .i64 r.1.sy, .int .i64 r.1.sz, .int .i64 r.1.count]
set_option maxRecDepth 100000 in
theorem open_runs {r : Reach} {b0 : Nat} {v : Value} {d : DataW H} {p : List MemPlace} (hv : Value.okWide Try.prog w r b0 42 v) (h : DataW.Trod enc Try.prog w base spare held 42 v d p) :
    ∃ l : List Rn, Runs w v l := by
  obtain ⟨l, a, cap, rfl, h1, h2, h3⟩ := open_slice_of (n := 10) (enc' := runRow) (by decide) Try.underlying42 cells_runL (fun fuel cs x hx => by
    obtain ⟨f, hn, hb⟩ := run_cellsL hx
    exact ⟨⟨f, hn⟩, hb⟩) hv h
  refine ⟨l.map (·.1), a, cap, by simp, by simpa using h1, h2, fun i hi => ?_⟩
  have hi' : i < l.length := by simpa using hi
  obtain ⟨b, off, e, _, hc⟩ := h3 i hi'
  rw [List.getElem_map]
  exact ⟨l[i].2, b, off, e, hc 0 (by decide), hc 1 (by decide), hc 2 (by decide), hc 3 (by decide), hc 4 (by decide), hc 5 (by decide), hc 6 (by decide), hc 7 (by decide), hc 8 (by decide), hc 9 (by decide)⟩
end
end Go.Proofs.Ytofjopdcbmaijaa

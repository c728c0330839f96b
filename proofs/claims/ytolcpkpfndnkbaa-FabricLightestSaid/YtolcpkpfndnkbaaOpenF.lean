/- The arguments of the laws on fabrics, opened. -/
import Derived.Test.YtolcpkpfndnkbaaOpen
import Derived.Test.YtolcpkpfndnkbaaFabA
namespace Go.Proofs.Ytolcpkpfndnkbaa
open Go.ChangeShapes Go.WideShapes Go.ChangeAt Go.RowKit Go.Deep

theorem cells_string : Try.prog.cellsOf 9 = 1 := by kernel_rfl
theorem cells_fab : Try.prog.cellsOf 34 = 6 := by kernel_rfl

section
variable {H : Type} {enc : TypeId × Value → H} {w : World} {base : Nat} {spare : Nat → Bool} {held : Bool}
theorem fab_cells {fuel : Nat} {l : List Value} {x : DataW H × List MemPlace} (h : DataW.trod enc Try.prog w base spare held fuel 34 l = some x) :
    ∃ f : Fb, f.name.size ≤ 9223372036854775807 ∧ l = [.string f.name, .int .i64 f.main, .int .i64 f.cross, .int .i64 f.length, .int .i64 f.width, .int .i64 f.mass] := by
  obtain ⟨xs, n, _, _, hl, hlen, hg⟩ := DataW.trod_struct Try.underlying34 h
  rw [cells_fab] at hl
  obtain ⟨c0, c1, c2, c3, c4, c5, rfl⟩ := len6 hl
  obtain ⟨y0, y1, y2, y3, y4, y5, rfl⟩ := len6 hlen
  have f0 : DataW.trod enc Try.prog w base spare held n 9 (([c0, c1, c2, c3, c4, c5].drop 0).take (Try.prog.cellsOf 9)) = some y0 := hg 0 _ rfl
  have f1 : DataW.trod enc Try.prog w base spare held n 3 (([c0, c1, c2, c3, c4, c5].drop 1).take (Try.prog.cellsOf 3)) = some y1 := hg 1 _ rfl
  have f2 : DataW.trod enc Try.prog w base spare held n 3 (([c0, c1, c2, c3, c4, c5].drop 2).take (Try.prog.cellsOf 3)) = some y2 := hg 2 _ rfl
  have f3 : DataW.trod enc Try.prog w base spare held n 3 (([c0, c1, c2, c3, c4, c5].drop 3).take (Try.prog.cellsOf 3)) = some y3 := hg 3 _ rfl
  have f4 : DataW.trod enc Try.prog w base spare held n 3 (([c0, c1, c2, c3, c4, c5].drop 4).take (Try.prog.cellsOf 3)) = some y4 := hg 4 _ rfl
  have f5 : DataW.trod enc Try.prog w base spare held n 3 (([c0, c1, c2, c3, c4, c5].drop 5).take (Try.prog.cellsOf 3)) = some y5 := hg 5 _ rfl
  clear hg h
  rw [cells_string] at f0
  rw [cells_int] at f1 f2 f3 f4 f5
  obtain ⟨a, e0, _, w0⟩ := DataW.trod_string Try.underlying9 f0
  obtain ⟨b, e1, _, _⟩ := DataW.trod_int Try.underlying3 f1
  obtain ⟨c, e2, _, _⟩ := DataW.trod_int Try.underlying3 f2
  obtain ⟨d, e3, _, _⟩ := DataW.trod_int Try.underlying3 f3
  obtain ⟨e, e4, _, _⟩ := DataW.trod_int Try.underlying3 f4
  obtain ⟨f, e5, _, _⟩ := DataW.trod_int Try.underlying3 f5
  simp at e0 e1 e2 e3 e4 e5
  subst e0 e1 e2 e3 e4 e5
  exact ⟨⟨a, b, c, d, e, f⟩, w0, rfl⟩

set_option maxRecDepth 100000 in
theorem open_fab {r : Reach} {b0 : Nat} {v : Value} {d : DataW H} {p : List MemPlace} (hv : Value.okWide Try.prog w r b0 34 v) (h : DataW.Trod enc Try.prog w base spare held 34 v d p) :
    ∃ f : Fb, f.name.size ≤ 9223372036854775807 ∧ v = (.agg #[.string f.name, .int .i64 f.main, .int .i64 f.cross, .int .i64 f.length, .int .i64 f.width, .int .i64 f.mass]) := by
  obtain ⟨cs, rfl, hsz⟩ := okWide_struct Try.underlying34 hv
  obtain ⟨fuel, hf⟩ := h
  obtain ⟨f, hn, hb⟩ := fab_cells hf
  obtain ⟨l⟩ := cs
  have hl : l = [.string f.name, .int .i64 f.main, .int .i64 f.cross, .int .i64 f.length, .int .i64 f.width, .int .i64 f.mass] := hb
  subst hl
  exact ⟨f, hn, rfl⟩

def fabRow (f : {f : Fb // f.name.size ≤ 9223372036854775807}) : List Value := [.string f.1.name, .int .i64 f.1.main, .int .i64 f.1.cross, .int .i64 f.1.length, .int .i64 f.1.width, .int .i64 f.1.mass]
set_option maxRecDepth 100000 in
theorem open_fabs {r : Reach} {b0 : Nat} {v : Value} {d : DataW H} {p : List MemPlace} (hv : Value.okWide Try.prog w r b0 56 v) (h : DataW.Trod enc Try.prog w base spare held 56 v d p) :
    ∃ l : List Fb, Fabs w v l := by
  obtain ⟨l, a, cap, rfl, h1, h2, h3⟩ := open_slice_of (n := 6) (enc' := fabRow) (by decide) Try.underlying56 cells_fab (fun fuel cs x hx => by
    obtain ⟨f, hn, hb⟩ := fab_cells hx
    exact ⟨⟨f, hn⟩, hb⟩) hv h
  refine ⟨l.map (·.1), a, cap, by simp, by simpa using h1, h2, fun i hi => ?_⟩
  have hi' : i < l.length := by simpa using hi
  obtain ⟨b, off, e, _, hc⟩ := h3 i hi'
  rw [List.getElem_map]
  exact ⟨l[i].2, b, off, e, hc 0 (by decide), hc 1 (by decide), hc 2 (by decide), hc 3 (by decide), hc 4 (by decide), hc 5 (by decide)⟩
end
end Go.Proofs.Ytolcpkpfndnkbaa

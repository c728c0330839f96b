/- Members among the arguments, opened. -/
import Derived.Test.YtafkibnkpcmmgaaOpenS
import Derived.Test.YtafkibnkpcmmgaaMb
namespace Go.Proofs.Ytafkibnkpcmmgaa
open Go.ChangeShapes Go.WideShapes Go.ChangeAt Go.RowKit Go.Deep

section
variable {H : Type} {enc : TypeId × Value → H} {w : World} {base : Nat} {spare : Nat → Bool} {held : Bool}
theorem len5 {α : Type} {l : List α} (h : l.length = 5) : ∃ a b c d e, l = [a, b, c, d, e] := by
  match l, h with
  | [a, b, c, d, e], _ => exact ⟨a, b, c, d, e, rfl⟩
theorem cells_string' : Try.prog.cellsOf 9 = 1 := by kernel_rfl
theorem cells_member : Try.prog.cellsOf 57 = 6 := by kernel_rfl
theorem member_cells {fuel : Nat} {l : List Value} {x : DataW H × List MemPlace} (h : DataW.trod enc Try.prog w base spare held fuel 57 l = some x) :
    ∃ m : Mb, l = [.string m.name, m.u, m.t, .int .i64 m.cover, .int .i64 m.agg, .int .i64 m.poker] ∧ MbAt w m := by
  obtain ⟨xs, n, _, _, hl, hlen, hg⟩ := DataW.trod_struct Try.underlying57 h
  rw [cells_member] at hl
  obtain ⟨c0, c1, c2, c3, c4, c5, rfl⟩ := len6 hl
  obtain ⟨y0, y1, y2, y3, y4, rfl⟩ := len5 hlen
  have f0 : DataW.trod enc Try.prog w base spare held n 9 (([c0, c1, c2, c3, c4, c5].drop 0).take (Try.prog.cellsOf 9)) = some y0 := hg 0 _ rfl
  have f1 : DataW.trod enc Try.prog w base spare held n 24 (([c0, c1, c2, c3, c4, c5].drop 1).take (Try.prog.cellsOf 24)) = some y1 := hg 1 _ rfl
  have f2 : DataW.trod enc Try.prog w base spare held n 3 (([c0, c1, c2, c3, c4, c5].drop 3).take (Try.prog.cellsOf 3)) = some y2 := hg 2 _ rfl
  have f3 : DataW.trod enc Try.prog w base spare held n 3 (([c0, c1, c2, c3, c4, c5].drop 4).take (Try.prog.cellsOf 3)) = some y3 := hg 3 _ rfl
  have f4 : DataW.trod enc Try.prog w base spare held n 3 (([c0, c1, c2, c3, c4, c5].drop 5).take (Try.prog.cellsOf 3)) = some y4 := hg 4 _ rfl
  clear hg h
  rw [cells_string'] at f0
  rw [cells_solid] at f1
  rw [cells_int] at f2 f3 f4
  obtain ⟨a, e0, _, w0⟩ := DataW.trod_string Try.underlying9 f0
  obtain ⟨v, u, bs, hs, e1, hb, hh⟩ := solid_cells f1
  obtain ⟨b, e2, _, _⟩ := DataW.trod_int Try.underlying3 f2
  obtain ⟨c, e3, _, _⟩ := DataW.trod_int Try.underlying3 f3
  obtain ⟨d, e4, _, _⟩ := DataW.trod_int Try.underlying3 f4
  simp at e0 e1 e2 e3 e4
  obtain ⟨rfl, rfl⟩ := e1
  subst e0 e2 e3 e4
  exact ⟨⟨a, bs, hs, _, _, b, c, d⟩, rfl, w0, hb, hh⟩

set_option maxRecDepth 100000 in
theorem open_member {r : Reach} {b0 : Nat} {v : Value} {d : DataW H} {p : List MemPlace} (hv : Value.okWide Try.prog w r b0 57 v) (h : DataW.Trod enc Try.prog w base spare held 57 v d p) :
    ∃ m : Mb, v = .agg #[.string m.name, m.u, m.t, .int .i64 m.cover, .int .i64 m.agg, .int .i64 m.poker] ∧ MbAt w m := by
  obtain ⟨cs, rfl, hsz⟩ := okWide_struct Try.underlying57 hv
  obtain ⟨fuel, hf⟩ := h
  obtain ⟨m, hb, hm⟩ := member_cells hf
  obtain ⟨l⟩ := cs
  have hl : l = [.string m.name, m.u, m.t, .int .i64 m.cover, .int .i64 m.agg, .int .i64 m.poker] := hb
  subst hl
  exact ⟨m, rfl, hm⟩
end
end Go.Proofs.Ytafkibnkpcmmgaa

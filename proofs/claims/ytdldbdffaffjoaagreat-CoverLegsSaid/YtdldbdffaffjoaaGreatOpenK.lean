/- OpenS, OpenM in one text. -/
import Derived.Test.YtdldbdffaffjoaaGreatOpen
import Derived.Test.YtdldbdffaffjoaaGreatMb
namespace Go.Proofs.YtdldbdffaffjoaaGreat
open Go.ChangeShapes Go.WideShapes Go.ChangeAt Go.RowKit Go.Deep
set_option maxRecDepth 20000

section
variable {H : Type} {enc : TypeId × Value → H} {w : World} {base : Nat} {spare : Nat → Bool} {held : Bool}

set_option maxRecDepth 100000 in
/-- A slice among the cells of a struct. -/
theorem cells_slice_of {α : Type} {e t : TypeId} {n : Nat} {enc' : α → List Value} (hn : 0 < n) (ht : Tryz.prog.underlying t = some (.slice e)) (hC : Tryz.prog.cellsOf e = n)
    (hel : ∀ (fuel : Nat) (cs : List Value) (x : DataW H × List MemPlace), DataW.trod enc Tryz.prog w base spare held fuel e cs = some x → ∃ y : α, cs = enc' y)
    {fuel : Nat} {cs : List Value} {x : DataW H × List MemPlace} (hf : DataW.trod enc Tryz.prog w base spare held fuel t cs = some x) :
    ∃ (l : List α) (a : Option Addr) (cap : Nat), cs = [.slice a l.length cap] ∧ l.length ≤ cap ∧ cap ≤ 9223372036854775807 ∧
      ∀ i (hi : i < l.length), ∃ b off, a = some ⟨b, off, none⟩ ∧ (enc' l[i]).length = n ∧ ∀ j, j < n → w.cell? ⟨b, off + i * n + j, none⟩ = (enc' l[i])[j]? := by
  rcases open_slice ht hf with ⟨hcs, _⟩ | ⟨a', len, cap, m, n', D, Pl, hcs, hb, hl, hm, hmm, hx, hi⟩
  · exact ⟨[], none, 0, hcs, Nat.le_refl _, by omega, fun i hi => absurd hi (by simp)⟩
  · have hle : len ≤ m := by rw [hmm]; split <;> omega
    unfold maxLen at hm
    have hall : ∀ i, i < len → ∃ y : α, w.cells? base (a'.add (i * n)) n = some (enc' y) := fun i hil => by
      obtain ⟨cs', hc, ht'⟩ := hi i (by omega)
      rw [hC] at hc
      obtain ⟨y, rfl⟩ := hel _ _ _ ht'
      exact ⟨y, hc⟩
    rcases Nat.eq_zero_or_pos len with rfl | hpos
    · exact ⟨[], some a', cap, hcs, Nat.zero_le _, hm, fun i hi => absurd hi (by simp)⟩
    · obtain ⟨y0, hy0⟩ := hall 0 hpos
      have hsp : a'.spot = none := by
        obtain ⟨_, hlen, hat⟩ := World.cells?_some hy0
        have h0 := hat 0 hn
        have : (enc' y0)[0]? = some ((enc' y0)[0]'(by omega)) := List.getElem?_eq_getElem (by omega)
        rw [this] at h0
        simpa [Addr.add] using spot_none h0
      haveI : Inhabited α := ⟨y0⟩
      obtain ⟨f, hf⟩ := choose_lt hall
      refine ⟨(List.range len).map f, some a', cap, by simpa using hcs, by simpa using hl, hm, fun i hil => ⟨a'.block, a'.off, ?_, ?_, fun j hj => ?_⟩⟩
      · obtain ⟨x, y, z⟩ := a'; simp only at hsp; subst hsp; rfl
      · obtain ⟨_, hlen, _⟩ := World.cells?_some (hf i (by simpa using hil))
        simpa using hlen
      · obtain ⟨_, hlen, hat⟩ := World.cells?_some (hf i (by simpa using hil))
        have := hat j hj
        rw [add_off hsp, add_off rfl] at this
        simpa [Nat.add_assoc] using this

theorem boxes_cells {fuel : Nat} {l : List Value} {x : DataW H × List MemPlace} (h : DataW.trod enc Tryz.prog w base spare held fuel 22 l = some x) :
    ∃ v bs, l = [v] ∧ Boxes w v bs := by
  obtain ⟨l, a, cap, hcs, h1, h2, h3⟩ := cells_slice_of (n := 6) (enc' := boxRow) (by decide) Tryz.underlying22 cells_box (fun fuel cs x hx => by
    obtain ⟨b, hb⟩ := box_cells hx
    exact ⟨b, hb⟩) h
  refine ⟨_, l, hcs, a, cap, rfl, h1, h2, fun i hi => ?_⟩
  obtain ⟨b, off, e, _, hc⟩ := h3 i hi
  exact ⟨b, off, e, hc 0 (by decide), hc 1 (by decide), hc 2 (by decide), hc 3 (by decide), hc 4 (by decide), hc 5 (by decide)⟩

theorem cells_boxes : Tryz.prog.cellsOf 22 = 1 := by kernel_rfl
theorem cells_solid : Tryz.prog.cellsOf 24 = 2 := by kernel_rfl
theorem solid_cells {fuel : Nat} {l : List Value} {x : DataW H × List MemPlace} (h : DataW.trod enc Tryz.prog w base spare held fuel 24 l = some x) :
    ∃ v u bs hs, l = [v, u] ∧ Boxes w v bs ∧ Boxes w u hs := by
  obtain ⟨xs, n, _, _, hl, hlen, hg⟩ := DataW.trod_struct Tryz.underlying24 h
  rw [cells_solid] at hl
  obtain ⟨c0, c1, rfl⟩ := len2 hl
  obtain ⟨y0, y1, rfl⟩ := len2 hlen
  have f0 : DataW.trod enc Tryz.prog w base spare held n 22 (([c0, c1].drop 0).take (Tryz.prog.cellsOf 22)) = some y0 := hg 0 _ rfl
  have f1 : DataW.trod enc Tryz.prog w base spare held n 22 (([c0, c1].drop 1).take (Tryz.prog.cellsOf 22)) = some y1 := hg 1 _ rfl
  clear hg h
  rw [cells_boxes] at f0 f1
  obtain ⟨v, bs, e0, hb⟩ := boxes_cells f0
  obtain ⟨u, hs, e1, hh⟩ := boxes_cells f1
  simp at e0 e1
  subst e0 e1
  exact ⟨_, _, bs, hs, rfl, hb, hh⟩

set_option maxRecDepth 100000 in
theorem open_solid {r : Reach} {b0 : Nat} {v : Value} {d : DataW H} {p : List MemPlace} (hv : Value.okWide Tryz.prog w r b0 24 v) (h : DataW.Trod enc Tryz.prog w base spare held 24 v d p) :
    ∃ v1 v2 bs hs, v = .agg #[v1, v2] ∧ Boxes w v1 bs ∧ Boxes w v2 hs := by
  obtain ⟨cs, rfl, hsz⟩ := okWide_struct Tryz.underlying24 hv
  obtain ⟨fuel, hf⟩ := h
  obtain ⟨v1, v2, bs, hs, hb, h1, h2⟩ := solid_cells hf
  obtain ⟨l⟩ := cs
  have hl : l = [v1, v2] := hb
  subst hl
  exact ⟨v1, v2, bs, hs, rfl, h1, h2⟩
end
end Go.Proofs.YtdldbdffaffjoaaGreat

namespace Go.Proofs.YtdldbdffaffjoaaGreat
open Go.ChangeShapes Go.WideShapes Go.ChangeAt Go.RowKit Go.Deep
set_option maxRecDepth 20000

section
variable {H : Type} {enc : TypeId × Value → H} {w : World} {base : Nat} {spare : Nat → Bool} {held : Bool}
theorem len5 {α : Type} {l : List α} (h : l.length = 5) : ∃ a b c d e, l = [a, b, c, d, e] := by
  match l, h with
  | [a, b, c, d, e], _ => exact ⟨a, b, c, d, e, rfl⟩
theorem cells_string' : Tryz.prog.cellsOf 9 = 1 := by kernel_rfl
theorem cells_member : Tryz.prog.cellsOf 26 = 6 := by kernel_rfl
theorem member_cells {fuel : Nat} {l : List Value} {x : DataW H × List MemPlace} (h : DataW.trod enc Tryz.prog w base spare held fuel 26 l = some x) :
    ∃ m : Mb, l = [.string m.name, m.u, m.t, .int .i64 m.cover, .int .i64 m.agg, .int .i64 m.poker] ∧ MbAt w m := by
  obtain ⟨xs, n, _, _, hl, hlen, hg⟩ := DataW.trod_struct Tryz.underlying26 h
  rw [cells_member] at hl
  obtain ⟨c0, c1, c2, c3, c4, c5, rfl⟩ := len6 hl
  obtain ⟨y0, y1, y2, y3, y4, rfl⟩ := len5 hlen
  have f0 : DataW.trod enc Tryz.prog w base spare held n 9 (([c0, c1, c2, c3, c4, c5].drop 0).take (Tryz.prog.cellsOf 9)) = some y0 := hg 0 _ rfl
  have f1 : DataW.trod enc Tryz.prog w base spare held n 24 (([c0, c1, c2, c3, c4, c5].drop 1).take (Tryz.prog.cellsOf 24)) = some y1 := hg 1 _ rfl
  have f2 : DataW.trod enc Tryz.prog w base spare held n 3 (([c0, c1, c2, c3, c4, c5].drop 3).take (Tryz.prog.cellsOf 3)) = some y2 := hg 2 _ rfl
  have f3 : DataW.trod enc Tryz.prog w base spare held n 3 (([c0, c1, c2, c3, c4, c5].drop 4).take (Tryz.prog.cellsOf 3)) = some y3 := hg 3 _ rfl
  have f4 : DataW.trod enc Tryz.prog w base spare held n 3 (([c0, c1, c2, c3, c4, c5].drop 5).take (Tryz.prog.cellsOf 3)) = some y4 := hg 4 _ rfl
  clear hg h
  rw [cells_string'] at f0
  rw [cells_solid] at f1
  rw [cells_int] at f2 f3 f4
  obtain ⟨a, e0, _, w0⟩ := DataW.trod_string Tryz.underlying9 f0
  obtain ⟨v, u, bs, hs, e1, hb, hh⟩ := solid_cells f1
  obtain ⟨b, e2, _, _⟩ := DataW.trod_int Tryz.underlying3 f2
  obtain ⟨c, e3, _, _⟩ := DataW.trod_int Tryz.underlying3 f3
  obtain ⟨d, e4, _, _⟩ := DataW.trod_int Tryz.underlying3 f4
  simp at e0 e1 e2 e3 e4
  obtain ⟨rfl, rfl⟩ := e1
  subst e0 e2 e3 e4
  exact ⟨⟨a, bs, hs, _, _, b, c, d⟩, rfl, w0, hb, hh⟩

set_option maxRecDepth 100000 in
theorem open_member {r : Reach} {b0 : Nat} {v : Value} {d : DataW H} {p : List MemPlace} (hv : Value.okWide Tryz.prog w r b0 26 v) (h : DataW.Trod enc Tryz.prog w base spare held 26 v d p) :
    ∃ m : Mb, v = .agg #[.string m.name, m.u, m.t, .int .i64 m.cover, .int .i64 m.agg, .int .i64 m.poker] ∧ MbAt w m := by
  obtain ⟨cs, rfl, hsz⟩ := okWide_struct Tryz.underlying26 hv
  obtain ⟨fuel, hf⟩ := h
  obtain ⟨m, hb, hm⟩ := member_cells hf
  obtain ⟨l⟩ := cs
  have hl : l = [.string m.name, m.u, m.t, .int .i64 m.cover, .int .i64 m.agg, .int .i64 m.poker] := hb
  subst hl
  exact ⟨m, rfl, hm⟩
end
end Go.Proofs.YtdldbdffaffjoaaGreat


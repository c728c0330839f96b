/- Details among the arguments, opened. -/
import Derived.Test.YtkjljneehgmmaaaGreatOpenK
import Derived.Test.YtkjljneehgmmaaaGreatAaK6
namespace Go.Proofs.YtkjljneehgmmaaaGreat
open Go.ChangeShapes Go.WideShapes Go.ChangeAt Go.RowKit Go.Deep
set_option maxRecDepth 20000
set_option maxRecDepth 100000

section
variable {H : Type} {enc : TypeId × Value → H} {w : World} {base : Nat} {spare : Nat → Bool} {held : Bool}
theorem cells_stepD : Tryz.prog.cellsOf 109 = 2 := by kernel_rfl
theorem step_cellsD {fuel : Nat} {l : List Value} {x : DataW H × List MemPlace} (h : DataW.trod enc Tryz.prog w base spare held fuel 109 l = some x) :
  ∃ p : Int × Int, l = [.int .i64 p.1, .int .i64 p.2] := by
 obtain ⟨xs, n, _, _, hl, hlen, hg⟩ := DataW.trod_struct Tryz.underlying109 h
 rw [cells_stepD] at hl
 obtain ⟨c0, c1, rfl⟩ := len2 hl
 obtain ⟨y0, y1, rfl⟩ := len2 hlen
 have f0 : DataW.trod enc Tryz.prog w base spare held n 3 (([c0, c1].drop 0).take (Tryz.prog.cellsOf 3)) = some y0 := hg 0 _ rfl
 have f1 : DataW.trod enc Tryz.prog w base spare held n 3 (([c0, c1].drop 1).take (Tryz.prog.cellsOf 3)) = some y1 := hg 1 _ rfl
 clear hg h
 rw [cells_int] at f0 f1
 obtain ⟨a, e0, _, _⟩ := DataW.trod_int Tryz.underlying3 f0
 obtain ⟨b, e1, _, _⟩ := DataW.trod_int Tryz.underlying3 f1
 simp at e0 e1
 subst e0 e1
 exact ⟨(a, b), rfl⟩
theorem cells_stepsD : Tryz.prog.cellsOf 41 = 1 := by kernel_rfl
theorem steps_cellsD {fuel : Nat} {l : List Value} {x : DataW H × List MemPlace} (h : DataW.trod enc Tryz.prog w base spare held fuel 41 l = some x) :
  ∃ v ps, l = [v] ∧ Prs w v ps := by
 obtain ⟨l, a, cap, hcs, h1, h2, h3⟩ := cells_slice_of (n := 2) (enc' := fun p : Int × Int => [.int .i64 p.1, .int .i64 p.2]) (by decide) Tryz.underlying41 cells_stepD (fun fuel cs x hx => step_cellsD hx) h
 refine ⟨_, l, hcs, a, cap, rfl, h1, h2, fun i hi => ?_⟩
 obtain ⟨b, off, e, _, hc⟩ := h3 i hi
 exact ⟨b, off, e, hc 0 (by decide), hc 1 (by decide)⟩
theorem cells_jointD : Tryz.prog.cellsOf 128 = 2 := by kernel_rfl
theorem joint_cellsD {fuel : Nat} {l : List Value} {x : DataW H × List MemPlace} (h : DataW.trod enc Tryz.prog w base spare held fuel 128 l = some x) :
  ∃ p : Int × Int, l = [.int .i64 p.1, .int .i64 p.2] := by
 obtain ⟨xs, n, _, _, hl, hlen, hg⟩ := DataW.trod_struct Tryz.underlying128 h
 rw [cells_jointD] at hl
 obtain ⟨c0, c1, rfl⟩ := len2 hl
 obtain ⟨y0, y1, rfl⟩ := len2 hlen
 have f0 : DataW.trod enc Tryz.prog w base spare held n 3 (([c0, c1].drop 0).take (Tryz.prog.cellsOf 3)) = some y0 := hg 0 _ rfl
 have f1 : DataW.trod enc Tryz.prog w base spare held n 3 (([c0, c1].drop 1).take (Tryz.prog.cellsOf 3)) = some y1 := hg 1 _ rfl
 clear hg h
 rw [cells_int] at f0 f1
 obtain ⟨a, e0, _, _⟩ := DataW.trod_int Tryz.underlying3 f0
 obtain ⟨b, e1, _, _⟩ := DataW.trod_int Tryz.underlying3 f1
 simp at e0 e1
 subst e0 e1
 exact ⟨(a, b), rfl⟩
theorem cells_jointsD : Tryz.prog.cellsOf 29 = 1 := by kernel_rfl
theorem joints_cellsD {fuel : Nat} {l : List Value} {x : DataW H × List MemPlace} (h : DataW.trod enc Tryz.prog w base spare held fuel 29 l = some x) :
  ∃ v ps, l = [v] ∧ Prs w v ps := by
 obtain ⟨l, a, cap, hcs, h1, h2, h3⟩ := cells_slice_of (n := 2) (enc' := fun p : Int × Int => [.int .i64 p.1, .int .i64 p.2]) (by decide) Tryz.underlying29 cells_jointD (fun fuel cs x hx => joint_cellsD hx) h
 refine ⟨_, l, hcs, a, cap, rfl, h1, h2, fun i hi => ?_⟩
 obtain ⟨b, off, e, _, hc⟩ := h3 i hi
 exact ⟨b, off, e, hc 0 (by decide), hc 1 (by decide)⟩
theorem cells_demandD : Tryz.prog.cellsOf 43 = 8 := by kernel_rfl
theorem len8D {α : Type} {l : List α} (h : l.length = 8) : ∃ a b c d e f g i, l = [a, b, c, d, e, f, g, i] := by
 match l, h with
 | [a, b, c, d, e, f, g, i], _ => exact ⟨a, b, c, d, e, f, g, i, rfl⟩
theorem demand_cellsD {fuel : Nat} {l : List Value} {x : DataW H × List MemPlace} (h : DataW.trod enc Tryz.prog w base spare held fuel 43 l = some x) :
  ∃ f : Dm, l = [.string f.name, .int .i64 f.zone.lx, .int .i64 f.zone.ly, .int .i64 f.zone.lz, .int .i64 f.zone.hx, .int .i64 f.zone.hy, .int .i64 f.zone.hz, f.v] ∧ DmOk w f := by
 obtain ⟨xs, n, _, _, hl, hlen, hg⟩ := DataW.trod_struct Tryz.underlying43 h
 rw [cells_demandD] at hl
 obtain ⟨c0, c1, c2, c3, c4, c5, c6, c7, rfl⟩ := len8D hl
 obtain ⟨y0, y1, y2, rfl⟩ := len3 hlen
 have f0 : DataW.trod enc Tryz.prog w base spare held n 9 (([c0, c1, c2, c3, c4, c5, c6, c7].drop 0).take (Tryz.prog.cellsOf 9)) = some y0 := hg 0 _ rfl
 have f1 : DataW.trod enc Tryz.prog w base spare held n 40 (([c0, c1, c2, c3, c4, c5, c6, c7].drop 1).take (Tryz.prog.cellsOf 40)) = some y1 := hg 1 _ rfl
 have f2 : DataW.trod enc Tryz.prog w base spare held n 41 (([c0, c1, c2, c3, c4, c5, c6, c7].drop 7).take (Tryz.prog.cellsOf 41)) = some y2 := hg 2 _ rfl
 clear hg h
 rw [cells_string'] at f0
 rw [cells_box] at f1
 rw [cells_stepsD] at f2
 obtain ⟨a, e0, _, w0⟩ := DataW.trod_string Tryz.underlying9 f0
 obtain ⟨b, e1⟩ := box_cells f1
 obtain ⟨v, ps, e2, hp⟩ := steps_cellsD f2
 simp at e0 e1 e2
 obtain ⟨rfl, rfl, rfl, rfl, rfl, rfl⟩ := e1
 subst e0 e2
 exact ⟨⟨a, b, ps, _⟩, rfl, w0, hp⟩
def dmRow (f : {f : Dm // DmOk w f}) : List Value := [.string f.1.name, .int .i64 f.1.zone.lx, .int .i64 f.1.zone.ly, .int .i64 f.1.zone.lz, .int .i64 f.1.zone.hx, .int .i64 f.1.zone.hy, .int .i64 f.1.zone.hz, f.1.v]
theorem cells_demandsD : Tryz.prog.cellsOf 30 = 1 := by kernel_rfl
theorem demands_cellsD {fuel : Nat} {l : List Value} {x : DataW H × List MemPlace} (h : DataW.trod enc Tryz.prog w base spare held fuel 30 l = some x) :
  ∃ v ps, l = [v] ∧ Dms w v ps := by
 obtain ⟨l, a, cap, hcs, h1, h2, h3⟩ := cells_slice_of (n := 8) (enc' := dmRow (w := w)) (by decide) Tryz.underlying30 cells_demandD (fun fuel cs x hx => by
  obtain ⟨f, hb, hn⟩ := demand_cellsD hx
  exact ⟨⟨f, hn⟩, hb⟩) h
 refine ⟨_, l.map (·.1), hcs, a, cap, by simp, by simpa using h1, h2, fun i hi => ?_⟩
 have hi' : i < l.length := by simpa using hi
 obtain ⟨b, off, e, _, hc⟩ := h3 i hi'
 rw [List.getElem_map]
 exact ⟨l[i].2, b, off, e, hc 0 (by decide), hc 1 (by decide), hc 2 (by decide), hc 3 (by decide), hc 4 (by decide), hc 5 (by decide), hc 6 (by decide), hc 7 (by decide)⟩
theorem cells_barsD : Tryz.prog.cellsOf 27 = 1 := by kernel_rfl
theorem bars_cellsD {fuel : Nat} {l : List Value} {x : DataW H × List MemPlace} (h : DataW.trod enc Tryz.prog w base spare held fuel 27 l = some x) :
  ∃ v ps, l = [v] ∧ Bars w v ps := by
 obtain ⟨l, a, cap, hcs, h1, h2, h3⟩ := cells_slice_of (n := 5) (enc' := barRow (w := w)) (by decide) Tryz.underlying27 cells_barL (fun fuel cs x hx => by
  obtain ⟨f, hb, hn⟩ := bar_cellsL hx
  exact ⟨⟨f, hn⟩, hb⟩) h
 refine ⟨_, l.map (·.1), hcs, a, cap, by simp, by simpa using h1, h2, fun i hi => ?_⟩
 have hi' : i < l.length := by simpa using hi
 obtain ⟨b, off, e, _, hc⟩ := h3 i hi'
 rw [List.getElem_map]
 exact ⟨l[i].2, b, off, e, hc 0 (by decide), hc 1 (by decide), hc 2 (by decide), hc 3 (by decide), hc 4 (by decide)⟩
theorem cells_runsD : Tryz.prog.cellsOf 28 = 1 := by kernel_rfl
theorem runs_cellsD {fuel : Nat} {l : List Value} {x : DataW H × List MemPlace} (h : DataW.trod enc Tryz.prog w base spare held fuel 28 l = some x) :
  ∃ v ps, l = [v] ∧ Runs w v ps := by
 obtain ⟨l, a, cap, hcs, h1, h2, h3⟩ := cells_slice_of (n := 10) (enc' := runRow) (by decide) Tryz.underlying28 cells_runL (fun fuel cs x hx => by
  obtain ⟨f, hn, hb⟩ := run_cellsL hx
  exact ⟨⟨f, hn⟩, hb⟩) h
 refine ⟨_, l.map (·.1), hcs, a, cap, by simp, by simpa using h1, h2, fun i hi => ?_⟩
 have hi' : i < l.length := by simpa using hi
 obtain ⟨b, off, e, _, hc⟩ := h3 i hi'
 rw [List.getElem_map]
 exact ⟨l[i].2, b, off, e, hc 0 (by decide), hc 1 (by decide), hc 2 (by decide), hc 3 (by decide), hc 4 (by decide), hc 5 (by decide), hc 6 (by decide), hc 7 (by decide), hc 8 (by decide), hc 9 (by decide)⟩
theorem cells_ruleD : Tryz.prog.cellsOf 32 = 9 := by kernel_rfl
theorem len9D {α : Type} {l : List α} (h : l.length = 9) : ∃ c0 c1 c2 c3 c4 c5 c6 c7 c8, l = [c0, c1, c2, c3, c4, c5, c6, c7, c8] := by
 match l, h with
 | [c0, c1, c2, c3, c4, c5, c6, c7, c8], _ => exact ⟨c0, c1, c2, c3, c4, c5, c6, c7, c8, rfl⟩
theorem rule_cellsD {fuel : Nat} {l : List Value} {x : DataW H × List MemPlace} (h : DataW.trod enc Tryz.prog w base spare held fuel 32 l = some x) :
  ∃ r : Rl, l = [.int .i64 r.num, .int .i64 r.den, .int .i64 r.pn, .int .i64 r.pd, .int .i64 r.bn, .int .i64 r.bd, .int .i64 r.ln, .int .i64 r.ld, .int .i64 r.least] := by
 obtain ⟨xs, n, _, _, hl, hlen, hg⟩ := DataW.trod_struct Tryz.underlying32 h
 rw [cells_ruleD] at hl
 obtain ⟨c0, c1, c2, c3, c4, c5, c6, c7, c8, rfl⟩ := len9D hl
 obtain ⟨y0, y1, y2, y3, y4, y5, y6, y7, y8, rfl⟩ := len9D hlen
 have f0 : DataW.trod enc Tryz.prog w base spare held n 3 (([c0, c1, c2, c3, c4, c5, c6, c7, c8].drop 0).take (Tryz.prog.cellsOf 3)) = some y0 := hg 0 _ rfl
 have f1 : DataW.trod enc Tryz.prog w base spare held n 3 (([c0, c1, c2, c3, c4, c5, c6, c7, c8].drop 1).take (Tryz.prog.cellsOf 3)) = some y1 := hg 1 _ rfl
 have f2 : DataW.trod enc Tryz.prog w base spare held n 3 (([c0, c1, c2, c3, c4, c5, c6, c7, c8].drop 2).take (Tryz.prog.cellsOf 3)) = some y2 := hg 2 _ rfl
 have f3 : DataW.trod enc Tryz.prog w base spare held n 3 (([c0, c1, c2, c3, c4, c5, c6, c7, c8].drop 3).take (Tryz.prog.cellsOf 3)) = some y3 := hg 3 _ rfl
 have f4 : DataW.trod enc Tryz.prog w base spare held n 3 (([c0, c1, c2, c3, c4, c5, c6, c7, c8].drop 4).take (Tryz.prog.cellsOf 3)) = some y4 := hg 4 _ rfl
 have f5 : DataW.trod enc Tryz.prog w base spare held n 3 (([c0, c1, c2, c3, c4, c5, c6, c7, c8].drop 5).take (Tryz.prog.cellsOf 3)) = some y5 := hg 5 _ rfl
 have f6 : DataW.trod enc Tryz.prog w base spare held n 3 (([c0, c1, c2, c3, c4, c5, c6, c7, c8].drop 6).take (Tryz.prog.cellsOf 3)) = some y6 := hg 6 _ rfl
 have f7 : DataW.trod enc Tryz.prog w base spare held n 3 (([c0, c1, c2, c3, c4, c5, c6, c7, c8].drop 7).take (Tryz.prog.cellsOf 3)) = some y7 := hg 7 _ rfl
 have f8 : DataW.trod enc Tryz.prog w base spare held n 3 (([c0, c1, c2, c3, c4, c5, c6, c7, c8].drop 8).take (Tryz.prog.cellsOf 3)) = some y8 := hg 8 _ rfl
 clear hg h
 rw [cells_int] at f0 f1 f2 f3 f4 f5 f6 f7 f8
 obtain ⟨a0, e0, _, _⟩ := DataW.trod_int Tryz.underlying3 f0
 obtain ⟨a1, e1, _, _⟩ := DataW.trod_int Tryz.underlying3 f1
 obtain ⟨a2, e2, _, _⟩ := DataW.trod_int Tryz.underlying3 f2
 obtain ⟨a3, e3, _, _⟩ := DataW.trod_int Tryz.underlying3 f3
 obtain ⟨a4, e4, _, _⟩ := DataW.trod_int Tryz.underlying3 f4
 obtain ⟨a5, e5, _, _⟩ := DataW.trod_int Tryz.underlying3 f5
 obtain ⟨a6, e6, _, _⟩ := DataW.trod_int Tryz.underlying3 f6
 obtain ⟨a7, e7, _, _⟩ := DataW.trod_int Tryz.underlying3 f7
 obtain ⟨a8, e8, _, _⟩ := DataW.trod_int Tryz.underlying3 f8
 simp at e0 e1 e2 e3 e4 e5 e6 e7 e8
 subst e0 e1 e2 e3 e4 e5 e6 e7 e8
 exact ⟨⟨a0, a1, a2, a3, a4, a5, a6, a7, a8⟩, rfl⟩
theorem cells_detailD : Tryz.prog.cellsOf 34 = 19 := by kernel_rfl
theorem len19D {α : Type} {l : List α} (h : l.length = 19) : ∃ c0 c1 c2 c3 c4 c5 c6 c7 c8 c9 c10 c11 c12 c13 c14 c15 c16 c17 c18, l = [c0, c1, c2, c3, c4, c5, c6, c7, c8, c9, c10, c11, c12, c13, c14, c15, c16, c17, c18] := by
 match l, h with
 | [c0, c1, c2, c3, c4, c5, c6, c7, c8, c9, c10, c11, c12, c13, c14, c15, c16, c17, c18], _ => exact ⟨c0, c1, c2, c3, c4, c5, c6, c7, c8, c9, c10, c11, c12, c13, c14, c15, c16, c17, c18, rfl⟩
theorem detail_cellsD {fuel : Nat} {l : List Value} {x : DataW H × List MemPlace} (h : DataW.trod enc Tryz.prog w base spare held fuel 34 l = some x) :
  ∃ x : Dt, l = [.string x.q.name, x.q.u, x.q.t, .int .i64 x.q.cover, .int .i64 x.q.agg, .int .i64 x.q.poker, x.lv, x.rv, x.pv, x.dv, .int .i64 x.ru.num, .int .i64 x.ru.den, .int .i64 x.ru.pn, .int .i64 x.ru.pd, .int .i64 x.ru.bn, .int .i64 x.ru.bd, .int .i64 x.ru.ln, .int .i64 x.ru.ld, .int .i64 x.ru.least] ∧ DtAt w x := by
 obtain ⟨xs, n, _, _, hl, hlen, hg⟩ := DataW.trod_struct Tryz.underlying34 h
 rw [cells_detailD] at hl
 obtain ⟨c0, c1, c2, c3, c4, c5, c6, c7, c8, c9, c10, c11, c12, c13, c14, c15, c16, c17, c18, rfl⟩ := len19D hl
 obtain ⟨y0, y1, y2, y3, y4, y5, rfl⟩ := len6 hlen
 have f0 : DataW.trod enc Tryz.prog w base spare held n 26 (([c0, c1, c2, c3, c4, c5, c6, c7, c8, c9, c10, c11, c12, c13, c14, c15, c16, c17, c18].drop 0).take (Tryz.prog.cellsOf 26)) = some y0 := hg 0 _ rfl
 have f1 : DataW.trod enc Tryz.prog w base spare held n 27 (([c0, c1, c2, c3, c4, c5, c6, c7, c8, c9, c10, c11, c12, c13, c14, c15, c16, c17, c18].drop 6).take (Tryz.prog.cellsOf 27)) = some y1 := hg 1 _ rfl
 have f2 : DataW.trod enc Tryz.prog w base spare held n 28 (([c0, c1, c2, c3, c4, c5, c6, c7, c8, c9, c10, c11, c12, c13, c14, c15, c16, c17, c18].drop 7).take (Tryz.prog.cellsOf 28)) = some y2 := hg 2 _ rfl
 have f3 : DataW.trod enc Tryz.prog w base spare held n 29 (([c0, c1, c2, c3, c4, c5, c6, c7, c8, c9, c10, c11, c12, c13, c14, c15, c16, c17, c18].drop 8).take (Tryz.prog.cellsOf 29)) = some y3 := hg 3 _ rfl
 have f4 : DataW.trod enc Tryz.prog w base spare held n 30 (([c0, c1, c2, c3, c4, c5, c6, c7, c8, c9, c10, c11, c12, c13, c14, c15, c16, c17, c18].drop 9).take (Tryz.prog.cellsOf 30)) = some y4 := hg 4 _ rfl
 have f5 : DataW.trod enc Tryz.prog w base spare held n 32 (([c0, c1, c2, c3, c4, c5, c6, c7, c8, c9, c10, c11, c12, c13, c14, c15, c16, c17, c18].drop 10).take (Tryz.prog.cellsOf 32)) = some y5 := hg 5 _ rfl
 clear hg h
 rw [cells_member] at f0
 rw [cells_barsD] at f1
 rw [cells_runsD] at f2
 rw [cells_jointsD] at f3
 rw [cells_demandsD] at f4
 rw [cells_ruleD] at f5
 obtain ⟨q, e0, hq⟩ := member_cells f0
 obtain ⟨lv, l, e1, hl⟩ := bars_cellsD f1
 obtain ⟨rv, rs, e2, hr⟩ := runs_cellsD f2
 obtain ⟨pv, lp, e3, hp⟩ := joints_cellsD f3
 obtain ⟨dv, dm, e4, hd⟩ := demands_cellsD f4
 obtain ⟨ru, e5⟩ := rule_cellsD f5
 simp at e0 e1 e2 e3 e4 e5
 obtain ⟨rfl, rfl, rfl, rfl, rfl, rfl⟩ := e0
 obtain ⟨rfl, rfl, rfl, rfl, rfl, rfl, rfl, rfl, rfl⟩ := e5
 subst e1 e2 e3 e4
 exact ⟨⟨q, l, _, rs, _, lp, _, dm, _, ru⟩, rfl, hq, hl, hr, hp, hd⟩
theorem open_detail {r : Reach} {b0 : Nat} {v : Value} {d : DataW H} {p : List MemPlace} (hv : Value.okWide Tryz.prog w r b0 34 v) (h : DataW.Trod enc Tryz.prog w base spare held 34 v d p) :
  ∃ x : Dt, v = (.agg #[.string x.q.name, x.q.u, x.q.t, .int .i64 x.q.cover, .int .i64 x.q.agg, .int .i64 x.q.poker, x.lv, x.rv, x.pv, x.dv, .int .i64 x.ru.num, .int .i64 x.ru.den, .int .i64 x.ru.pn, .int .i64 x.ru.pd, .int .i64 x.ru.bn, .int .i64 x.ru.bd, .int .i64 x.ru.ln, .int .i64 x.ru.ld, .int .i64 x.ru.least]) ∧ DtAt w x := by
 obtain ⟨cs, rfl, hsz⟩ := okWide_struct Tryz.underlying34 hv
 obtain ⟨fuel, hf⟩ := h
 obtain ⟨x, hb, hm⟩ := detail_cellsD hf
 obtain ⟨l⟩ := cs
 have hl : l = [.string x.q.name, x.q.u, x.q.t, .int .i64 x.q.cover, .int .i64 x.q.agg, .int .i64 x.q.poker, x.lv, x.rv, x.pv, x.dv, .int .i64 x.ru.num, .int .i64 x.ru.den, .int .i64 x.ru.pn, .int .i64 x.ru.pd, .int .i64 x.ru.bn, .int .i64 x.ru.bd, .int .i64 x.ru.ln, .int .i64 x.ru.ld, .int .i64 x.ru.least] := hb
 subst hl
 exact ⟨x, rfl, hm⟩
end
end Go.Proofs.YtkjljneehgmmaaaGreat

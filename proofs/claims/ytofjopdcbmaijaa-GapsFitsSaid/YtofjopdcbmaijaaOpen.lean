/- The arguments of the laws on boxes, opened. -/
import Derived.Test.YtofjopdcbmaijaaBoxG
import Derived.ProofKit
import Derived.OpenShut
import Derived.Deep.Slices
import Derived.Deep.Fields
import Derived.ChangeSame
import Derived.ChangeOld
namespace Go.Proofs.Ytofjopdcbmaijaa
open Go.ChangeShapes Go.WideShapes Go.ChangeAt Go.RowKit Go.Deep
set_option maxRecDepth 20000

theorem own : ownKnob Try.prog.godebug = none := by kernel_rfl
theorem laidOut : laidOutB Try.prog = true := by kernel_rfl

theorem min_u8 : IntKind.u8.min = 0 := by decide
theorem max_u8 : IntKind.u8.max = 255 := by decide
theorem wf_u8 {n : Int} (h : (Lit.int .u8 n).wf = true) : 0 ≤ n ∧ n ≤ 255 := by
  simp only [Lit.wf, Bool.and_eq_true, decide_eq_true_eq, min_u8, max_u8] at h; exact h
theorem min_u16 : IntKind.u16.min = 0 := by decide
theorem max_u16 : IntKind.u16.max = 65535 := by decide
theorem wf_u16 {n : Int} (h : (Lit.int .u16 n).wf = true) : 0 ≤ n ∧ n ≤ 65535 := by
  simp only [Lit.wf, Bool.and_eq_true, decide_eq_true_eq, min_u16, max_u16] at h; exact h
theorem min_i64 : IntKind.i64.min = -9223372036854775808 := by decide
theorem max_i64 : IntKind.i64.max = 9223372036854775807 := by decide
theorem wf_i64 {n : Int} (h : (Lit.int .i64 n).wf = true) : -9223372036854775808 ≤ n ∧ n ≤ 9223372036854775807 := by
  simp only [Lit.wf, Bool.and_eq_true, decide_eq_true_eq, min_i64, max_i64] at h; exact h
theorem len2 {α : Type} {l : List α} (h : l.length = 2) : ∃ a b, l = [a, b] := by
  match l, h with
  | [a, b], _ => exact ⟨a, b, rfl⟩
theorem len3 {α : Type} {l : List α} (h : l.length = 3) : ∃ a b c, l = [a, b, c] := by
  match l, h with
  | [a, b, c], _ => exact ⟨a, b, c, rfl⟩
theorem len6 {α : Type} {l : List α} (h : l.length = 6) : ∃ a b c d e f, l = [a, b, c, d, e, f] := by
  match l, h with
  | [a, b, c, d, e, f], _ => exact ⟨a, b, c, d, e, f, rfl⟩
theorem cells_int : Try.prog.cellsOf 3 = 1 := by kernel_rfl
theorem cells_point : Try.prog.cellsOf 39 = 3 := by kernel_rfl
theorem cells_box : Try.prog.cellsOf 52 = 6 := by kernel_rfl

section
variable {H : Type} {enc : TypeId × Value → H} {w : World} {base : Nat} {spare : Nat → Bool} {held : Bool}
theorem point_cells {fuel : Nat} {l : List Value} {x : DataW H × List MemPlace} (h : DataW.trod enc Try.prog w base spare held fuel 39 l = some x) :
    ∃ a b c : Int, l = [.int .i64 a, .int .i64 b, .int .i64 c] ∧ (Lit.int .i64 a).wf = true ∧ (Lit.int .i64 b).wf = true ∧ (Lit.int .i64 c).wf = true := by
  obtain ⟨xs, n, _, _, hl, hlen, hg⟩ := DataW.trod_struct Try.underlying39 h
  rw [cells_point] at hl
  obtain ⟨c0, c1, c2, rfl⟩ := len3 hl
  obtain ⟨y0, y1, y2, rfl⟩ := len3 hlen
  have f0 : DataW.trod enc Try.prog w base spare held n 3 (([c0, c1, c2].drop 0).take (Try.prog.cellsOf 3)) = some y0 := hg 0 _ rfl
  have f1 : DataW.trod enc Try.prog w base spare held n 3 (([c0, c1, c2].drop 1).take (Try.prog.cellsOf 3)) = some y1 := hg 1 _ rfl
  have f2 : DataW.trod enc Try.prog w base spare held n 3 (([c0, c1, c2].drop 2).take (Try.prog.cellsOf 3)) = some y2 := hg 2 _ rfl
  clear hg h
  rw [cells_int] at f0 f1 f2
  obtain ⟨a, e0, _, w0⟩ := DataW.trod_int Try.underlying3 f0
  obtain ⟨b, e1, _, w1⟩ := DataW.trod_int Try.underlying3 f1
  obtain ⟨c, e2, _, w2⟩ := DataW.trod_int Try.underlying3 f2
  simp at e0 e1 e2
  subst e0 e1 e2
  exact ⟨a, b, c, rfl, w0, w1, w2⟩

theorem box_cells {fuel : Nat} {l : List Value} {x : DataW H × List MemPlace} (h : DataW.trod enc Try.prog w base spare held fuel 52 l = some x) :
    ∃ b : Bx, l = [.int .i64 b.lx, .int .i64 b.ly, .int .i64 b.lz, .int .i64 b.hx, .int .i64 b.hy, .int .i64 b.hz] := by
  obtain ⟨xs, n, _, _, hl, hlen, hg⟩ := DataW.trod_struct Try.underlying52 h
  rw [cells_box] at hl
  obtain ⟨c0, c1, c2, c3, c4, c5, rfl⟩ := len6 hl
  obtain ⟨y0, y1, rfl⟩ := len2 hlen
  have f0 : DataW.trod enc Try.prog w base spare held n 39 (([c0, c1, c2, c3, c4, c5].drop 0).take (Try.prog.cellsOf 39)) = some y0 := hg 0 _ rfl
  have f1 : DataW.trod enc Try.prog w base spare held n 39 (([c0, c1, c2, c3, c4, c5].drop 3).take (Try.prog.cellsOf 39)) = some y1 := hg 1 _ rfl
  clear hg h
  rw [cells_point] at f0 f1
  obtain ⟨a0, a1, a2, e0, _⟩ := point_cells f0
  obtain ⟨b0, b1, b2, e1, _⟩ := point_cells f1
  simp at e0 e1
  obtain ⟨rfl, rfl, rfl⟩ := e0
  obtain ⟨rfl, rfl, rfl⟩ := e1
  exact ⟨⟨a0, a1, a2, b0, b1, b2⟩, rfl⟩

set_option maxRecDepth 100000 in
theorem open_box {r : Reach} {b0 : Nat} {v : Value} {d : DataW H} {p : List MemPlace} (hv : Value.okWide Try.prog w r b0 52 v) (h : DataW.Trod enc Try.prog w base spare held 52 v d p) :
    ∃ b : Bx, v = (.agg #[.int .i64 b.lx, .int .i64 b.ly, .int .i64 b.lz, .int .i64 b.hx, .int .i64 b.hy, .int .i64 b.hz]) := by
  obtain ⟨cs, rfl, hsz⟩ := okWide_struct Try.underlying52 hv
  obtain ⟨fuel, hf⟩ := h
  obtain ⟨b, hb⟩ := box_cells hf
  obtain ⟨l⟩ := cs
  have hl : l = [.int .i64 b.lx, .int .i64 b.ly, .int .i64 b.lz, .int .i64 b.hx, .int .i64 b.hy, .int .i64 b.hz] := hb
  subst hl
  exact ⟨b, rfl⟩
set_option maxRecDepth 100000 in
theorem open_point {r : Reach} {b0 : Nat} {v : Value} {d : DataW H} {p : List MemPlace} (hv : Value.okWide Try.prog w r b0 39 v) (h : DataW.Trod enc Try.prog w base spare held 39 v d p) :
    ∃ a b c : Int, v = (.agg #[.int .i64 a, .int .i64 b, .int .i64 c]) := by
  obtain ⟨cs, rfl, hsz⟩ := okWide_struct Try.underlying39 hv
  obtain ⟨fuel, hf⟩ := h
  obtain ⟨a, b, c, hb, _⟩ := point_cells hf
  obtain ⟨l⟩ := cs
  have hl : l = [.int .i64 a, .int .i64 b, .int .i64 c] := hb
  subst hl
  exact ⟨a, b, c, rfl⟩

theorem spot_none {w : World} {a : Addr} {v : Value} (h : w.cell? a = some v) : a.spot = none := by
  unfold World.cell? at h
  split at h
  · cases hs : a.spot with
    | none => rfl
    | some s => rw [hs] at h; simp at h
  · simp at h
theorem add_off {a : Addr} (h : a.spot = none) (n : Nat) : a.add n = ⟨a.block, a.off + n, none⟩ := by
  obtain ⟨b, o, s⟩ := a
  simp only at h
  subst h
  unfold Addr.add
  split
  · rename_i h0; subst h0; rfl
  · rfl

set_option maxRecDepth 100000 in
/-- A slice of structs of n cells, whose cells read as the elements of a list say. -/
theorem open_slice_of {α : Type} {e t : TypeId} {n : Nat} {enc' : α → List Value} (hn : 0 < n) (ht : Try.prog.underlying t = some (.slice e)) (hC : Try.prog.cellsOf e = n)
    (hel : ∀ (fuel : Nat) (cs : List Value) (x : DataW H × List MemPlace), DataW.trod enc Try.prog w base spare held fuel e cs = some x → ∃ y : α, cs = enc' y)
    {r : Reach} {b0 : Nat} {v : Value} {d : DataW H} {p : List MemPlace} (hv : Value.okWide Try.prog w r b0 t v) (h : DataW.Trod enc Try.prog w base spare held t v d p) :
    ∃ (l : List α) (a : Option Addr) (cap : Nat), v = .slice a l.length cap ∧ l.length ≤ cap ∧ cap ≤ 9223372036854775807 ∧
      ∀ i (hi : i < l.length), ∃ b off, a = some ⟨b, off, none⟩ ∧ (enc' l[i]).length = n ∧ ∀ j, j < n → w.cell? ⟨b, off + i * n + j, none⟩ = (enc' l[i])[j]? := by
  obtain ⟨a, len, cap, rfl⟩ := okWide_slice ht hv
  obtain ⟨fuel, hf⟩ := h
  rcases open_slice ht hf with ⟨hcs, _⟩ | ⟨a', len', cap', m, n', D, Pl, hcs, hb, hl, hm, hmm, hx, hi⟩
  · have he : Value.slice a len cap = .slice none 0 0 := by simpa [Value.cells] using hcs
    cases he
    exact ⟨[], none, 0, rfl, Nat.le_refl _, by omega, fun i hi => absurd hi (by simp)⟩
  · have he : Value.slice a len cap = .slice (some a') len' cap' := by simpa [Value.cells] using hcs
    cases he
    have hle : len ≤ m := by rw [hmm]; split <;> omega
    unfold maxLen at hm
    have hall : ∀ i, i < len → ∃ y : α, w.cells? base (a'.add (i * n)) n = some (enc' y) := fun i hil => by
      obtain ⟨cs', hc, ht'⟩ := hi i (by omega)
      rw [hC] at hc
      obtain ⟨y, rfl⟩ := hel _ _ _ ht'
      exact ⟨y, hc⟩
    rcases Nat.eq_zero_or_pos len with rfl | hpos
    · exact ⟨[], some a', cap, rfl, Nat.zero_le _, hm, fun i hi => absurd hi (by simp)⟩
    · obtain ⟨y0, hy0⟩ := hall 0 hpos
      have hsp : a'.spot = none := by
        obtain ⟨_, hlen, hat⟩ := World.cells?_some hy0
        have h0 := hat 0 hn
        have : (enc' y0)[0]? = some ((enc' y0)[0]'(by omega)) := List.getElem?_eq_getElem (by omega)
        rw [this] at h0
        simpa [Addr.add] using spot_none h0
      haveI : Inhabited α := ⟨y0⟩
      obtain ⟨f, hf⟩ := choose_lt hall
      refine ⟨(List.range len).map f, some a', cap, by simp, by simpa using hl, hm, fun i hil => ⟨a'.block, a'.off, ?_, ?_, fun j hj => ?_⟩⟩
      · obtain ⟨x, y, z⟩ := a'; simp only at hsp; subst hsp; rfl
      · obtain ⟨_, hlen, _⟩ := World.cells?_some (hf i (by simpa using hil))
        simpa using hlen
      · obtain ⟨_, hlen, hat⟩ := World.cells?_some (hf i (by simpa using hil))
        have := hat j hj
        rw [add_off hsp, add_off rfl] at this
        simpa [Nat.add_assoc] using this

def boxRow (b : Bx) : List Value := [.int .i64 b.lx, .int .i64 b.ly, .int .i64 b.lz, .int .i64 b.hx, .int .i64 b.hy, .int .i64 b.hz]
set_option maxRecDepth 100000 in
theorem open_boxes {r : Reach} {b0 : Nat} {v : Value} {d : DataW H} {p : List MemPlace} (hv : Value.okWide Try.prog w r b0 48 v) (h : DataW.Trod enc Try.prog w base spare held 48 v d p) :
    ∃ l : List Bx, Boxes w v l := by
  obtain ⟨l, a, cap, rfl, h1, h2, h3⟩ := open_slice_of (n := 6) (enc' := boxRow) (by decide) Try.underlying48 cells_box (fun fuel cs x hx => by
    obtain ⟨b, hb⟩ := box_cells hx
    exact ⟨b, hb⟩) hv h
  refine ⟨l, a, cap, rfl, h1, h2, fun i hi => ?_⟩
  obtain ⟨b, off, e, _, hc⟩ := h3 i hi
  exact ⟨b, off, e, hc 0 (by decide), hc 1 (by decide), hc 2 (by decide), hc 3 (by decide), hc 4 (by decide), hc 5 (by decide)⟩
end
end Go.Proofs.Ytofjopdcbmaijaa

/- GapA, GapB in one text. -/
import Derived.Test.YtmhhohancconaaaGreatSzMap
import Derived.Test.YtmhhohancconaaaGreatNameK
import Derived.Test.YtmhhohancconaaaGreatCovK0
import Derived.Test.YtmhhohancconaaaGreatLaidK4
namespace Go.Proofs.YtmhhohancconaaaGreat
open Go.RowKit
set_option maxRecDepth 20000

def leastI (d a : Int) : Int := max d (max (a + 5) 20)
def leastE (d a : Int) : Int × Int := if sizeB d = true then (if inI a 1 100 = true then (leastI d a, 0) else (0, 2)) else (0, 1)
def mostI (w c d a : Int) : Int := if w - 2 * c < d then 0 else (w - 2 * c + leastI d a) / (d + leastI d a)
def mostE (w c d a : Int) : Int × Int := if sizeB d = true then (if inI w 1 1048576 = true ∧ inI c 0 200 = true ∧ inI a 1 100 = true then (mostI w c d a, 0) else (0, 2)) else (0, 1)
theorem leastI_ge (d a : Int) : 20 ≤ leastI d a := by unfold leastI; omega
theorem leastI_le {d a : Int} (hd : sizeB d = true) (ha : a ≤ 100) : leastI d a ≤ 105 := by
  have := size_iff.1 hd
  unfold leastI; omega

def gapB (a b : Bx) : Int := max (b.ly - a.hy) (max (a.ly - b.hy) (max (b.lz - a.hz) (a.lz - b.hz)))
def SmallB (a : Bx) : Prop := (-2000000 ≤ a.ly ∧ a.ly ≤ 2000000) ∧ (-2000000 ≤ a.lz ∧ a.lz ≤ 2000000) ∧ (-2000000 ≤ a.hy ∧ a.hy ≤ 2000000) ∧ (-2000000 ≤ a.hz ∧ a.hz ≤ 2000000)
theorem run_max_int4 {P : Program} (w : World) (ts : Array TypeId) (t : TypeId) (k k' k'' k3 : IntKind) (x y z u : Int) : (Builtin.max_ ts t #[.int k x, .int k' y, .int k'' z, .int k3 u]).run P w = .ok (.int k (max x (max y (max z u)))) w := by
  simp [Builtin.max_, Builtin.max2]; omega
attribute [local go_sem] run_max_int4
end Go.Proofs.YtmhhohancconaaaGreat

namespace Go.Proofs.YtmhhohancconaaaGreat
open Go.RowKit
set_option maxRecDepth 20000

structure Ct where
  box : Bx
  size : Int
  mark : ByteArray
def CtAt (w : World) (b off : Nat) (c : Ct) : Prop :=
  w.cell? ⟨b, off, none⟩ = some (.int .i64 c.box.lx) ∧ w.cell? ⟨b, off + 1, none⟩ = some (.int .i64 c.box.ly) ∧ w.cell? ⟨b, off + 2, none⟩ = some (.int .i64 c.box.lz) ∧
  w.cell? ⟨b, off + 3, none⟩ = some (.int .i64 c.box.hx) ∧ w.cell? ⟨b, off + 4, none⟩ = some (.int .i64 c.box.hy) ∧ w.cell? ⟨b, off + 5, none⟩ = some (.int .i64 c.box.hz) ∧
  w.cell? ⟨b, off + 6, none⟩ = some (.int .i64 c.size) ∧ w.cell? ⟨b, off + 7, none⟩ = some (.string c.mark)
theorem CtAt.ext {w : World} {b off : Nat} {c : Ct} (h : CtAt w b off c) (y : World) : CtAt (ext w y) b off c := by
  obtain ⟨h0, h1, h2, h3, h4, h5, h6, h7⟩ := h
  exact ⟨cell_ext_some h0 y, cell_ext_some h1 y, cell_ext_some h2 y, cell_ext_some h3 y, cell_ext_some h4 y, cell_ext_some h5 y, cell_ext_some h6 y, cell_ext_some h7 y⟩
/-- A slice value that reads as a list of cuts. -/
def Cts (w : World) (v : Value) (l : List Ct) : Prop :=
  ∃ a cap, v = .slice a l.length cap ∧ l.length ≤ cap ∧ cap ≤ 9223372036854775807 ∧ ∀ i (h : i < l.length), ∃ b off, a = some ⟨b, off, none⟩ ∧ CtAt w b (off + i * 8) l[i]
theorem Cts.ext {w : World} {v : Value} {l : List Ct} (h : Cts w v l) (y : World) : Cts (ext w y) v l := by
  obtain ⟨a, cap, h1, h2, h3, h4⟩ := h
  exact ⟨a, cap, h1, h2, h3, fun i hi => let ⟨b, off, e, hb⟩ := h4 i hi; ⟨b, off, e, hb.ext y⟩⟩
theorem Cts.below {w w' : World} {v : Value} {l : List Ct} (h : Cts w v l) (hb : Below w.heap.size w w') : Cts w' v l := by
  obtain ⟨x, rfl⟩ := ext_of hb
  exact h.ext x
theorem Cts.shape {w : World} {v : Value} {l : List Ct} (h : Cts w v l) : ∃ a cap, v = .slice a l.length cap ∧ l.length ≤ cap ∧ cap ≤ 9223372036854775807 ∧ ∀ i (h : i < l.length), ∃ b off, a = some ⟨b, off, none⟩ ∧ CtAt w b (off + i * 8) l[i] := h

def ctCells (l : List Ct) : List Value := l.flatMap fun c => [.int .i64 c.box.lx, .int .i64 c.box.ly, .int .i64 c.box.lz, .int .i64 c.box.hx, .int .i64 c.box.hy, .int .i64 c.box.hz, .int .i64 c.size, .string c.mark]
theorem ctCells_append (a b : List Ct) : ctCells (a ++ b) = ctCells a ++ ctCells b := by unfold ctCells; rw [List.flatMap_append]
theorem ctCells_one (l : List Ct) : ∀ u ∈ ctCells l, u.oneCell' = true := by
  intro u hu
  unfold ctCells at hu
  obtain ⟨b, _, hb⟩ := List.mem_flatMap.1 hu
  simp only [List.mem_cons, List.not_mem_nil, or_false] at hb
  rcases hb with rfl | rfl | rfl | rfl | rfl | rfl | rfl | rfl <;> rfl
theorem ctCells_get (l : List Ct) (i : Nat) (h : i < l.length) : (ctCells l)[i * 8]? = some (.int .i64 l[i].box.lx) ∧ (ctCells l)[i * 8 + 1]? = some (.int .i64 l[i].box.ly) ∧ (ctCells l)[i * 8 + 2]? = some (.int .i64 l[i].box.lz) ∧
    (ctCells l)[i * 8 + 3]? = some (.int .i64 l[i].box.hx) ∧ (ctCells l)[i * 8 + 4]? = some (.int .i64 l[i].box.hy) ∧ (ctCells l)[i * 8 + 5]? = some (.int .i64 l[i].box.hz) ∧ (ctCells l)[i * 8 + 6]? = some (.int .i64 l[i].size) ∧ (ctCells l)[i * 8 + 7]? = some (.string l[i].mark) := by
  induction l generalizing i with
  | nil => simp at h
  | cons a l ih =>
    cases i with
    | zero => simp [ctCells]
    | succ i =>
      have := ih i (by simpa using h)
      have hc : ∀ k, (ctCells (a :: l))[(i + 1) * 8 + k]? = (ctCells l)[i * 8 + k]? := fun k => by
        rw [show (i + 1) * 8 + k = (i * 8 + k) + 1 + 1 + 1 + 1 + 1 + 1 + 1 + 1 by omega]
        simp only [ctCells, List.flatMap_cons, List.cons_append, List.nil_append, List.getElem?_cons_succ]
      have h0 := hc 0
      rw [Nat.add_zero, Nat.add_zero] at h0
      rw [h0, hc, hc, hc, hc, hc, hc, hc]
      exact this
theorem Cts.of_own {w : World} {base : Nat} {e : TypeId} {v : Value} {l : List Ct} (h : w.ownsRow base e 8 v l.length (ctCells l)) : Cts w v l := by
  obtain ⟨a, cap, rfl, h1, h2, h3⟩ := own_shape h
  unfold maxLen at h2
  refine ⟨a, cap, rfl, h1, by omega, fun i hi => ?_⟩
  obtain ⟨g, rfl, _, hc⟩ := h3 (by omega)
  obtain ⟨p0, p1, p2, p3, p4, p5, p6, p7⟩ := ctCells_get l i hi
  refine ⟨g, 0, rfl, ?_⟩
  rw [Nat.zero_add]
  exact ⟨by rw [hc _ (by omega), p0], by rw [hc _ (by omega), p1], by rw [hc _ (by omega), p2], by rw [hc _ (by omega), p3], by rw [hc _ (by omega), p4], by rw [hc _ (by omega), p5], by rw [hc _ (by omega), p6], by rw [hc _ (by omega), p7]⟩
theorem own_cts {W : World} {M : Nat} {e : TypeId} {v : Value} {n : Nat} {l : List Ct} {c : Ct} (h : W.ownsRow M e 8 v (n + 1) (ctCells l ++ ctCells [c])) (hn : n = l.length) : W.ownsRow M e 8 v (l ++ [c]).length (ctCells (l ++ [c])) := by
  subst hn
  rw [ctCells_append, List.length_append]; exact h

/-- A leg that is cut: along X, and there. -/
def alongB (x : Int) (b : Bx) : Bool := decide (b.lx < b.hx) && (decide (b.ly = b.hy) && (decide (b.lz = b.hz) && inI x b.lx b.hx))
def cutBox (d x : Int) (b : Bx) : Bx := ⟨x, b.ly - halfI d, b.lz - halfI d, x, b.ly + halfI d, b.lz + halfI d⟩
def cutOf (d : Int) (m : ByteArray) (x : Int) (b : Bx) : Option Ct := if alongB x b = true then some ⟨cutBox d x b, d, m⟩ else none
/-- The mark of a laid bar, and its size. -/
def markI (rs : List Rn) (i : Int) : ByteArray := match placeR rs i with | some (r, _) => r.mark | none => ⟨#[]⟩
def sizeI (l : List Br) (rs : List Rn) (i : Int) : Int := (barOf l (markI rs i)).size
def cutsAt (l : List Br) (rs : List Rn) (x : Int) (i : Nat) : List Ct := (legsI l rs i).filterMap (cutOf (sizeI l rs i) (markI rs i) x)
def cutsTo (l : List Br) (rs : List Rn) (x : Int) (n : Nat) : List Ct := (List.range n).flatMap (cutsAt l rs x)
def cutsI (l : List Br) (rs : List Rn) (x : Int) : List Ct := cutsTo l rs x (countS rs).toNat
def cutsE (l : List Br) (rs : List Rn) (x : Int) : List Ct × Int := if laidB l rs = true then (if inI x (-1048576) 1048576 = true then (cutsI l rs x, 0) else ([], 2)) else ([], 1)
theorem cutsTo_succ (l : List Br) (rs : List Rn) (x : Int) (n : Nat) : cutsTo l rs x (n + 1) = cutsTo l rs x n ++ cutsAt l rs x n := by
  unfold cutsTo
  rw [List.range_succ, List.flatMap_append]; simp
theorem cutsAt_len (l : List Br) (rs : List Rn) (x : Int) (i : Nat) : (cutsAt l rs x i).length ≤ 6 := by
  unfold cutsAt
  have h1 := List.length_filterMap_le (cutOf (sizeI l rs i) (markI rs i) x) (legsI l rs i)
  have h2 := pathI_len l rs i
  have h3 : (legsI l rs i).length = (pathI l rs i).length - 1 := legsP_len _
  omega
theorem cutsTo_len (l : List Br) (rs : List Rn) (x : Int) (n : Nat) : (cutsTo l rs x n).length ≤ 6 * n := by
  induction n with
  | zero => simp [cutsTo]
  | succ n ih =>
    rw [cutsTo_succ, List.length_append]
    have := cutsAt_len l rs x n
    omega
theorem filter_take {f : Bx → Option Ct} {L : List Bx} {k : Nat} (h : k < L.length) : (L.take (k + 1)).filterMap f = (L.take k).filterMap f ++ (match f L[k] with | some c => [c] | none => []) := by
  rw [List.take_succ_eq_append_getElem h, List.filterMap_append]
  cases e : f L[k] <;> simp [e]
theorem mark_of {l : List Br} {rs : List Rn} (h : laidB l rs = true) {i : Int} (h0 : 0 ≤ i) (hi : i < countS rs) : markE l rs i = (markI rs i, 0) ∧ 0 ≤ findI l (markI rs i) ∧ (∃ r ∈ rs, r.mark = markI rs i) := by
  obtain ⟨r, j, e, hm, _, _⟩ := placeR_some (laidB_iff.1 h).2.2.1 h0 hi
  have hb := (laidB_iff.1 h).2.2.1 r hm
  have hk : markI rs i = r.mark := by unfold markI; rw [e]
  refine ⟨?_, ?_, r, hm, hk.symm⟩
  · unfold markE; rw [if_pos h, if_neg (by omega), e, hk]
  · rw [hk]
    rw [runB_eq] at hb
    simp only [right1, Bool.and_eq_true, decide_eq_true_iff] at hb
    exact hb.1.1
theorem size_of {l : List Br} {rs : List Rn} (h : laidB l rs = true) {i : Int} (h0 : 0 ≤ i) (hi : i < countS rs) : sizeB (sizeI l rs i) = true := by
  unfold sizeI
  exact (shape_facts (schedB_shape (laidB_iff.1 h).1 _ (bar_mem (mark_of h h0 hi).2.1))).2.2.1
theorem legB_near {p q : Pt} (hp : NearP p 1048576) (hq : NearP q 1048576) : validB (legB p q) = true := by
  obtain ⟨p1, p2, p3⟩ := hp
  obtain ⟨q1, q2, q3⟩ := hq
  rw [valid_iff]; unfold legB; simp only; omega
theorem legsP_valid {l : List Pt} (h : ∀ p ∈ l, NearP p 1048576) : ∀ b ∈ legsP l, validB b = true := by
  induction l with
  | nil => intro b hb; cases hb
  | cons a l ih =>
    cases l with
    | nil => intro b hb; cases hb
    | cons c l =>
      intro b hb
      simp only [legsP] at hb
      rcases List.mem_cons.1 hb with rfl | hb
      · exact legB_near (h a List.mem_cons_self) (h c (List.mem_cons_of_mem _ List.mem_cons_self))
      · exact ih (fun p hp => h p (List.mem_cons_of_mem _ hp)) b hb
theorem legsI_valid {l : List Br} {rs : List Rn} (h : laidB l rs = true) {i : Int} (h0 : 0 ≤ i) (hi : i < countS rs) : ∀ b ∈ legsI l rs i, validB b = true := legsP_valid (pathI_near h h0 hi)

end Go.Proofs.YtmhhohancconaaaGreat


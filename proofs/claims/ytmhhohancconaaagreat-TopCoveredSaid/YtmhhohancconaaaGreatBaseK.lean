/- PlainB, PlainF, Awake0, Clone, LaidA, Blk, RcDef in one text. -/
import Derived.Test.YtmhhohancconaaaGreatBoxK2
import Derived.Test.YtmhhohancconaaaGreatBoxK
import Derived.OneCell
namespace Go.Proofs.YtmhhohancconaaaGreat
open Go.RowKit
set_option maxRecDepth 20000

def endsL (l : List Bx) (k : Int) : List Int := l.flatMap fun x => [x.lo k, x.hi k]
def stepN (last nx n : Int) : Int := if last < n ∧ n < nx then n else nx
def nextL (last hi : Int) (zs : List Int) : Int := zs.foldl (stepN last) hi

theorem nextL_spec (last : Int) (zs : List Int) (hi : Int) (h : last < hi) :
    last < nextL last hi zs ∧ nextL last hi zs ≤ hi ∧ (nextL last hi zs = hi ∨ nextL last hi zs ∈ zs) ∧ ∀ n ∈ zs, last < n → nextL last hi zs ≤ n := by
  induction zs generalizing hi with
  | nil => exact ⟨h, Int.le_refl _, .inl rfl, fun n hn => by simp at hn⟩
  | cons z zs ih =>
    have hs : last < stepN last hi z ∧ stepN last hi z ≤ hi ∧ (stepN last hi z = hi ∨ stepN last hi z = z) ∧ (last < z → stepN last hi z ≤ z) := by
      unfold stepN; split <;> omega
    obtain ⟨s1, s2, s3, s4⟩ := hs
    obtain ⟨i1, i2, i3, i4⟩ := ih (stepN last hi z) s1
    show last < nextL last (stepN last hi z) zs ∧ nextL last (stepN last hi z) zs ≤ hi ∧ (nextL last (stepN last hi z) zs = hi ∨ nextL last (stepN last hi z) zs ∈ z :: zs) ∧ ∀ n ∈ z :: zs, last < n → nextL last (stepN last hi z) zs ≤ n
    refine ⟨i1, by omega, ?_, ?_⟩
    · rcases i3 with e | e
      · rw [e]
        rcases s3 with f | f
        · exact .inl f
        · exact .inr (by rw [f]; exact List.mem_cons_self ..)
      · exact .inr (List.mem_cons_of_mem _ e)
    · intro n hn hl
      rcases List.mem_cons.1 hn with rfl | hn
      · have := s4 hl; omega
      · exact i4 n hn hl

theorem nextL_snoc (last hi : Int) (zs ys : List Int) : nextL last hi (zs ++ ys) = nextL last (nextL last hi zs) ys := by unfold nextL; rw [List.foldl_append]
theorem endsL_take (l : List Bx) (k : Int) (j : Nat) (h : j < l.length) : endsL (l.take (j + 1)) k = endsL (l.take j) k ++ [l[j].lo k, l[j].hi k] := by
  unfold endsL; rw [List.take_succ_eq_append_getElem h, List.flatMap_append]; simp
theorem mem_endsL {l : List Bx} {k n : Int} : n ∈ endsL l k ↔ ∃ x ∈ l, n = x.lo k ∨ n = x.hi k := by
  unfold endsL; simp [List.mem_flatMap]

def cutsB (l : List Bx) (b : Bx) (k : Int) : List Int := cutsL (atL l (b.lo k) (b.hi k) k)

theorem mono_get {C : List Int} (hC : C.Pairwise (· < ·)) {i j : Nat} (hi : i < C.length) (hj : j < C.length) : i < j ↔ C[i] < C[j] := by
  have hp := List.pairwise_iff_getElem.1 hC
  constructor
  · intro h; exact hp i j hi hj h
  · intro h
    rcases Nat.lt_trichotomy i j with h1 | h1 | h1
    · exact h1
    · subst h1; omega
    · have := hp j i hj hi h1; omega

theorem cutsB_length (l : List Bx) (b : Bx) (k : Int) : (cutsB l b k).length ≤ 2 + 2 * l.length := by
  unfold cutsB cutsL
  have h1 := atL_length l (b.lo k) (b.hi k) k
  have h2 := length_sorted (atL l (b.lo k) (b.hi k) k)
  have h3 := Lib.compact_length_le (sorted (atL l (b.lo k) (b.hi k) k))
  omega

theorem cutsB_facts {l : List Bx} {b : Bx} {k : Int} (hb : b.lo k ≤ b.hi k) :
    ∃ h0 : 0 < (cutsB l b k).length, (cutsB l b k)[0] = b.lo k ∧ ∀ q (hq : q < (cutsB l b k).length),
      (∀ hq1 : q + 1 < (cutsB l b k).length, (cutsB l b k)[q] < b.hi k ∧ (cutsB l b k)[q + 1] = nextL (cutsB l b k)[q] (b.hi k) (endsL l k)) ∧
      (q + 1 = (cutsB l b k).length → (cutsB l b k)[q] = b.hi k) := by
  have hs := cutsL_spec (atL l (b.lo k) (b.hi k) k)
  have hm : ∀ n, n ∈ cutsB l b k ↔ n = b.lo k ∨ n = b.hi k ∨ ∃ x ∈ l, (b.lo k < n ∧ n < b.hi k) ∧ (n = x.lo k ∨ n = x.hi k) := fun n => by
    unfold cutsB; rw [hs.1 n, mem_atL]
  have hC : (cutsB l b k).Pairwise (· < ·) := hs.2
  clear hs
  generalize cutsB l b k = C at hm hC
  have hin : ∀ n ∈ C, b.lo k ≤ n ∧ n ≤ b.hi k := by
    intro n hn
    rcases (hm n).1 hn with rfl | rfl | ⟨x, _, h, _⟩ <;> omega
  obtain ⟨mh, hmh, eh⟩ := List.getElem_of_mem ((hm (b.hi k)).2 (.inr (.inl rfl)))
  obtain ⟨ml, hml, el⟩ := List.getElem_of_mem ((hm (b.lo k)).2 (.inl rfl))
  have h0 : 0 < C.length := by omega
  refine ⟨h0, ?_, ?_⟩
  · rcases Nat.eq_zero_or_pos ml with e | e
    · subst e; exact el
    · have h1 := (mono_get hC h0 hml).1 e
      have h2 := (hin _ (List.getElem_mem h0)).1
      omega
  · intro q hq
    constructor
    · intro hq1
      have h1 := (mono_get hC hq hq1).1 (by omega)
      have h2 := hin _ (List.getElem_mem hq1)
      have h3 := hin _ (List.getElem_mem hq)
      have hlt : C[q] < b.hi k := by omega
      refine ⟨hlt, ?_⟩
      obtain ⟨n1, n2, n3, n4⟩ := nextL_spec C[q] (endsL l k) (b.hi k) hlt
      apply Int.le_antisymm
      · have hr : nextL C[q] (b.hi k) (endsL l k) ∈ C := by
          rcases n3 with e | e
          · rw [e]; exact (hm _).2 (.inr (.inl rfl))
          · rcases Int.lt_or_eq_of_le n2 with e2 | e2
            · obtain ⟨x, hx, h⟩ := mem_endsL.1 e
              exact (hm _).2 (.inr (.inr ⟨x, hx, ⟨by omega, e2⟩, h⟩))
            · rw [e2]; exact (hm _).2 (.inr (.inl rfl))
        obtain ⟨m, hm', e⟩ := List.getElem_of_mem hr
        have := (mono_get hC hq hm').2 (by omega)
        rcases Nat.lt_or_ge (q + 1) m with h | h
        · have := (mono_get hC hq1 hm').1 h; omega
        · have : m = q + 1 := by omega
          subst this; omega
      · rcases (hm _).1 (List.getElem_mem hq1) with e | e | ⟨x, hx, h, e⟩
        · omega
        · omega
        · exact n4 _ (mem_endsL.2 ⟨x, hx, e⟩) (by omega)
    · intro hq1
      rcases Nat.lt_or_ge mh q with h | h
      · have h1 := (mono_get hC hmh hq).1 h
        have h2 := (hin _ (List.getElem_mem hq)).2
        omega
      · have : mh = q := by omega
        subst this; exact eh

/-- The parts along an axis, by the cuts' numbers. -/
theorem pairsL_len (C : List Int) : (pairsL C).length = C.length - 1 := by
  induction C with
  | nil => rfl
  | cons a C ih => cases C with
    | nil => rfl
    | cons b C => simp only [pairsL, List.length_cons] at ih ⊢; omega
theorem pairsL_get (C : List Int) (i : Nat) (h : i < (pairsL C).length) (h1 : i < C.length) (h2 : i + 1 < C.length) : (pairsL C)[i] = (C[i], C[i + 1]) := by
  induction C generalizing i with
  | nil => simp at h1
  | cons a C ih => cases C with
    | nil => simp at h2
    | cons b C =>
      cases i with
      | zero => rfl
      | succ i => 
        have h' : i < (pairsL (b :: C)).length := by rw [pairsL_len]; simp only [List.length_cons] at h2 ⊢; omega
        have := ih i h' (by simp only [List.length_cons] at h2 ⊢; omega) (by simp only [List.length_cons] at h2 ⊢; omega)
        simpa [pairsL] using this

theorem partsL_cuts {l : List Bx} {b : Bx} {k : Int} (hb : b.lo k ≤ b.hi k) : (partsL l b k).length = max 1 ((cutsB l b k).length - 1) ∧
    ∀ i (h : i < (partsL l b k).length) (h1 : i < (cutsB l b k).length) (h2 : min (i + 1) ((cutsB l b k).length - 1) < (cutsB l b k).length),
      (partsL l b k)[i] = ((cutsB l b k)[i], (cutsB l b k)[min (i + 1) ((cutsB l b k).length - 1)]) := by
  obtain ⟨h0, e0, hq⟩ := cutsB_facts (l := l) hb
  by_cases he : b.lo k = b.hi k
  · have hl : (cutsB l b k).length = 1 := by
      rcases Nat.lt_or_ge 1 (cutsB l b k).length with h | h
      · have := ((hq 0 h0).1 h).1; omega
      · omega
    have hp : partsL l b k = [(b.lo k, b.hi k)] := by unfold partsL; rw [if_pos he]
    refine ⟨by rw [hp, hl]; rfl, ?_⟩
    intro i h h1 h2
    have hi : i = 0 := by omega
    subst hi
    have e2 : (cutsB l b k)[min (0 + 1) ((cutsB l b k).length - 1)] = b.lo k := by
      have : min (0 + 1) ((cutsB l b k).length - 1) = 0 := by omega
      simp only [this]; exact e0
    rw [e2, e0]
    simp only [hp, List.getElem_cons_zero, ← he]
  · have hl : 1 < (cutsB l b k).length := by
      rcases Nat.lt_or_ge 1 (cutsB l b k).length with h | h
      · exact h
      · have := (hq 0 h0).2 (by omega); omega
    have hp : partsL l b k = pairsL (cutsB l b k) := by unfold partsL; rw [if_neg he]; rfl
    refine ⟨by rw [hp, pairsL_len]; omega, ?_⟩
    intro i h h1 h2
    have hi : i + 1 < (cutsB l b k).length := by rw [hp, pairsL_len] at h; omega
    have : min (i + 1) ((cutsB l b k).length - 1) = i + 1 := by omega
    simp only [this]
    have h' : i < (pairsL (cutsB l b k)).length := by rw [hp] at h; exact h
    have := pairsL_get _ i h' h1 hi
    simpa only [hp] using this
end Go.Proofs.YtmhhohancconaaaGreat

namespace Go.Proofs.YtmhhohancconaaaGreat
open Go.RowKit
set_option maxRecDepth 20000

def leftX (b : Bx) (p : Int) : Bx := ⟨b.lx, b.ly, b.lz, p, b.hy, b.hz⟩
def rightX (b : Bx) (p : Int) : Bx := ⟨p, b.ly, b.lz, b.hx, b.hy, b.hz⟩
def ptX (x y z : Int) : Bx := ⟨x, y, z, x, y, z⟩

theorem bool_eq_iff {a b : Bool} : a = b ↔ (a = true ↔ b = true) := by cases a <;> cases b <;> simp

theorem covers_halves {l : List Bx} {b : Bx} {p : Int} (h0 : b.lx ≤ b.hx) (h1 : b.ly ≤ b.hy) (h2 : b.lz ≤ b.hz) (hp : b.lx ≤ p ∧ p ≤ b.hx) :
    coversB l b = (coversB l (leftX b p) && coversB l (rightX b p)) := by
  rw [bool_eq_iff, Bool.and_eq_true, covers_iff h0 h1 h2, covers_iff (b := leftX b p) hp.1 h1 h2, covers_iff (b := rightX b p) hp.2 h1 h2]
  constructor
  · intro h
    refine ⟨fun P Q R ⟨hP, hQ, hR⟩ => h P Q R ⟨?_, hQ, hR⟩, fun P Q R ⟨hP, hQ, hR⟩ => h P Q R ⟨?_, hQ, hR⟩⟩
    · simp only [leftX] at hP; omega
    · simp only [rightX] at hP; omega
  · intro ⟨hl, hr⟩ P Q R ⟨hP, hQ, hR⟩
    by_cases hc : P ≤ 2 * p
    · exact hl P Q R ⟨by simp only [leftX]; omega, hQ, hR⟩
    · exact hr P Q R ⟨by simp only [rightX]; omega, hQ, hR⟩
theorem covers_point {l : List Bx} (x y z : Int) : coversB l (ptX x y z) = l.any fun c => containsB c (ptX x y z) := by
  rw [bool_eq_iff, covers_iff (b := ptX x y z) (Int.le_refl _) (Int.le_refl _) (Int.le_refl _), List.any_eq_true]
  constructor
  · intro h
    obtain ⟨a, ha, hP, hQ, hR⟩ := h (2 * x) (2 * y) (2 * z) ⟨by simp [ptX], by simp [ptX], by simp [ptX]⟩
    refine ⟨a, ha, contains_iff.2 ?_⟩
    simp only [ptX]
    omega
  · intro ⟨a, ha, hc⟩ P Q R ⟨hP, hQ, hR⟩
    have := contains_iff.1 hc
    simp only [ptX] at hP hQ hR this
    exact ⟨a, ha, by omega, by omega, by omega⟩
theorem covers_at {l : List Bx} {b : Bx} {x y z : Int} (h0 : b.lx ≤ b.hx) (h1 : b.ly ≤ b.hy) (h2 : b.lz ≤ b.hz) (hx : b.lx ≤ x ∧ x ≤ b.hx) (hy : b.ly ≤ y ∧ y ≤ b.hy) (hz : b.lz ≤ z ∧ z ≤ b.hz) (h : coversB l b = true) :
    coversB l (ptX x y z) = true := by
  rw [covers_iff h0 h1 h2] at h
  rw [covers_iff (b := ptX x y z) (Int.le_refl _) (Int.le_refl _) (Int.le_refl _)]
  intro P Q R ⟨hP, hQ, hR⟩
  simp only [ptX] at hP hQ hR
  exact h P Q R ⟨by omega, by omega, by omega⟩
theorem covers_more {l m : List Bx} {b : Bx} (h0 : b.lx ≤ b.hx) (h1 : b.ly ≤ b.hy) (h2 : b.lz ≤ b.hz) (h : coversB l b = true) : coversB (l ++ m) b = true := by
  rw [covers_iff h0 h1 h2] at h ⊢
  intro P Q R hb
  obtain ⟨a, ha, hc⟩ := h P Q R hb
  exact ⟨a, List.mem_append_left _ ha, hc⟩
theorem covers_rest {l : List Bx} {b : Bx} {p : Int} (h0 : b.lx ≤ b.hx) (h1 : b.ly ≤ b.hy) (h2 : b.lz ≤ b.hz) (hp : b.lx ≤ p ∧ p ≤ b.hx) (h : coversB l (rightX b p) = true) : coversB (l ++ [leftX b p]) b = true := by
  rw [covers_iff (b := rightX b p) hp.2 h1 h2] at h
  rw [covers_iff h0 h1 h2]
  intro P Q R ⟨hP, hQ, hR⟩
  by_cases hc : P ≤ 2 * p
  · exact ⟨_, List.mem_append_right _ (List.mem_singleton.2 rfl), by simp only [leftX]; omega, hQ, hR⟩
  · obtain ⟨a, ha, hh⟩ := h P Q R ⟨by simp only [rightX]; omega, hQ, hR⟩
    exact ⟨a, List.mem_append_left _ ha, hh⟩
theorem covers_own {b c : Bx} (h0 : b.lx ≤ b.hx) (h1 : b.ly ≤ b.hy) (h2 : b.lz ≤ b.hz) (h : containsB c b = true) : coversB [c] b = true := by
  rw [covers_iff h0 h1 h2]
  have := contains_iff.1 h
  intro P Q R ⟨hP, hQ, hR⟩
  exact ⟨c, List.mem_singleton.2 rfl, by omega, by omega, by omega⟩

end Go.Proofs.YtmhhohancconaaaGreat

namespace Go.Proofs.YtmhhohancconaaaGreat
open Go.RowKit
set_option maxRecDepth 20000

def boxCells (l : List Bx) : List Value := l.flatMap fun b => [.int .i64 b.lx, .int .i64 b.ly, .int .i64 b.lz, .int .i64 b.hx, .int .i64 b.hy, .int .i64 b.hz]
theorem boxCells_get (l : List Bx) (i : Nat) (h : i < l.length) : (boxCells l)[i * 6]? = some (.int .i64 l[i].lx) ∧ (boxCells l)[i * 6 + 1]? = some (.int .i64 l[i].ly) ∧ (boxCells l)[i * 6 + 2]? = some (.int .i64 l[i].lz) ∧
    (boxCells l)[i * 6 + 3]? = some (.int .i64 l[i].hx) ∧ (boxCells l)[i * 6 + 4]? = some (.int .i64 l[i].hy) ∧ (boxCells l)[i * 6 + 5]? = some (.int .i64 l[i].hz) := by
  induction l generalizing i with
  | nil => simp at h
  | cons a l ih =>
    cases i with
    | zero => simp [boxCells]
    | succ i =>
      have := ih i (by simpa using h)
      have hc : ∀ k, (boxCells (a :: l))[(i + 1) * 6 + k]? = (boxCells l)[i * 6 + k]? := fun k => by
        rw [show (i + 1) * 6 + k = (i * 6 + k) + 1 + 1 + 1 + 1 + 1 + 1 by omega]
        simp only [boxCells, List.flatMap_cons, List.cons_append, List.nil_append, List.getElem?_cons_succ]
      have h0 := hc 0
      rw [Nat.add_zero, Nat.add_zero] at h0
      rw [h0, hc, hc, hc, hc, hc]
      exact this
theorem Boxes.of_own {w : World} {base : Nat} {e : TypeId} {v : Value} {l : List Bx} (h : w.ownsRow base e 6 v l.length (boxCells l)) : Boxes w v l := by
  obtain ⟨a, cap, rfl, h1, h2, h3⟩ := own_shape h
  unfold maxLen at h2
  refine ⟨a, cap, rfl, h1, by omega, fun i hi => ?_⟩
  obtain ⟨g, rfl, _, hc⟩ := h3 (by omega)
  obtain ⟨p0, p1, p2, p3, p4, p5⟩ := boxCells_get l i hi
  refine ⟨g, 0, rfl, ?_⟩
  rw [Nat.zero_add]
  exact ⟨by rw [hc _ (by omega), p0], by rw [hc _ (by omega), p1], by rw [hc _ (by omega), p2], by rw [hc _ (by omega), p3], by rw [hc _ (by omega), p4], by rw [hc _ (by omega), p5]⟩

theorem example_covers : coversB [⟨0, 0, 0, 4, 10, 10⟩, ⟨4, 0, 0, 11, 10, 10⟩] ⟨0, 0, 0, 10, 10, 10⟩ = true := by
  rw [covers_iff (by decide) (by decide) (by decide)]
  intro P Q R h
  unfold inB at h
  simp only at h
  by_cases hp : P ≤ 8
  · exact ⟨_, List.mem_cons_self .., by unfold inB; simp only; omega⟩
  · exact ⟨_, List.mem_cons_of_mem _ (List.mem_singleton.2 rfl), by unfold inB; simp only; omega⟩

end Go.Proofs.YtmhhohancconaaaGreat

namespace Go.Proofs.YtmhhohancconaaaGreat
open Go.RowKit
set_option maxRecDepth 20000

theorem app_own_at {P : Program} {ops : Array Oper} {rest : List Oper} {o : Oper} {a : Act} {Q : Exit → Act → World → Prop} (hgd : o.guard = none) (s x : Operand) (t : TypeId)
    (ho : o.op = .call { callee := .builtin .append, args := #[s, x], argTypes := #[t, t] })
    (e : TypeId) (z : Value) (size bytes : Nat) (ht : P.underlying t = some (.slice e)) (hi : (P.info? e).map (fun i => (i.zero, i.size, i.bytes)) = some (some z, size, bytes)) (hzs : z.cells.size = size) (hsz : 0 < size)
    (B : World) (v : Value) (n : Nat) (xs : List Value) (w : World) (hs : a.eval s = v) (hown : w.ownsRow B.heap.size e size v n xs)
    (ad : Addr) (m c : Nat) (news : List Value) (hx : a.eval x = .slice (some ad) m c) (hl : news.length = m * size) (hnews : ∀ j u, news[j]? = some u → w.cell? (ad.add j) = some u) (h1 : ∀ u ∈ news, u.oneCell' = true)
    (hroom : (n + m) * bytes ≤ 140737488355328) (hby : 0 < bytes) (hB : Below B.heap.size B w)
    (h : ∀ v' y, (ext B y).ownsRow B.heap.size e size v' (n + m) (xs ++ news) → w.grownBy (ext B y) v.ownBlock → wpList P ops Q rest (a.put o.dst v') (ext B y)) : wpList P ops Q (o :: rest) a w := by
  obtain ⟨i0, hi, hz0, hz1, hz2⟩ := info_parts hi
  have h63 : n + m ≤ maxLen := by
    unfold maxLen
    have := Nat.le_mul_of_pos_right (n + m) hby
    omega
  refine wpList_append_own w hgd s x t ho B.heap.size e i0 z size bytes ht hi hz0 hz1 hz2 hzs hsz v n xs hs hown ad m c news hx hl hnews h1 h63 hroom hB.size ?_
  intro v' w' hown' hgrow _
  obtain ⟨y, rfl⟩ := ext_of (hB.grown hgrow hB.size (own_row hown))
  exact h v' y hown' hgrow

theorem boxCells_length (l : List Bx) : (boxCells l).length = l.length * 6 := by
  unfold boxCells
  induction l with
  | nil => rfl
  | cons a l ih => simp only [List.flatMap_cons, List.length_append, ih, List.length_cons, List.length_nil]; omega
theorem boxCells_one (l : List Bx) : ∀ u ∈ boxCells l, u.oneCell' = true := by
  intro u hu
  unfold boxCells at hu
  obtain ⟨b, _, hb⟩ := List.mem_flatMap.1 hu
  simp only [List.mem_cons, List.not_mem_nil, or_false] at hb
  rcases hb with rfl | rfl | rfl | rfl | rfl | rfl <;> rfl
theorem info_box' : (Tryz.prog.info? 56).map (fun i => (i.zero, i.size, i.bytes)) = some (some (.agg #[.int .i64 0, .int .i64 0, .int .i64 0, .int .i64 0, .int .i64 0, .int .i64 0]), 6, 48) := by kernel_rfl

/-- The cells of a slice of boxes, one after another. -/
theorem Boxes.cells {w : World} {ad : Addr} {cap : Nat} {l : List Bx} (h : Boxes w (.slice (some ad) l.length cap) l) : ∀ j u, (boxCells l)[j]? = some u → w.cell? (ad.add j) = some u := by
  intro j u hj
  obtain ⟨a, cap', he, _, _, hc⟩ := h
  cases he
  have hlt : j < (boxCells l).length := (List.getElem?_eq_some_iff.1 hj).1
  rw [boxCells_length] at hlt
  obtain ⟨i, r, hr, rfl⟩ : ∃ i r, r < 6 ∧ j = i * 6 + r := ⟨j / 6, j % 6, Nat.mod_lt _ (by decide), by omega⟩
  have hi : i < l.length := by omega
  obtain ⟨b, off, e, c0, c1, c2, c3, c4, c5⟩ := hc i hi
  cases e
  obtain ⟨d0, d1, d2, d3, d4, d5⟩ := boxCells_get l i hi
  have hadd : ∀ n, (⟨b, off, none⟩ : Addr).add n = ⟨b, off + n, none⟩ := fun n => by
    unfold Addr.add; split
    · rename_i h0; subst h0; rfl
    · rfl
  rw [hadd, ← Nat.add_assoc]
  have hr6 : r = 0 ∨ r = 1 ∨ r = 2 ∨ r = 3 ∨ r = 4 ∨ r = 5 := by omega
  rcases hr6 with rfl | rfl | rfl | rfl | rfl | rfl
  · rw [Nat.add_zero, d0] at hj; rw [Nat.add_zero, c0]; exact hj
  · rw [d1] at hj; rw [c1]; exact hj
  · rw [d2] at hj; rw [c2]; exact hj
  · rw [d3] at hj; rw [c3]; exact hj
  · rw [d4] at hj; rw [c4]; exact hj
  · rw [d5] at hj; rw [c5]; exact hj

theorem cell_alloc_keep {w : World} {a : Addr} {v : Value} (h : w.cell? a = some v) (o : Obj) : (w.alloc o).cell? a = some v := by
  rw [cell_alloc, h, Option.some_or]

end Go.Proofs.YtmhhohancconaaaGreat

namespace Go.Proofs.YtmhhohancconaaaGreat
open Go.RowKit
set_option maxRecDepth 20000

structure Pt where
  x : Int
  y : Int
  z : Int
deriving DecidableEq
structure Br where
  mark : ByteArray
  size : Int
  count : Int
  code : Int
  dims : List Int
  dv : Value
structure Rn where
  mark : ByteArray
  tx : Int
  ty : Int
  ax : Int
  ay : Int
  az : Int
  sx : Int
  sy : Int
  sz : Int
  count : Int

/-- A slice value, nil or not, that reads as a list of numbers. -/
def Dims (w : World) (v : Value) (l : List Int) : Prop :=
  ∃ a cap, v = .slice a l.length cap ∧ l.length ≤ cap ∧ cap ≤ 9223372036854775807 ∧ ∀ i (h : i < l.length), ∃ b off, a = some ⟨b, off, none⟩ ∧ w.cell? ⟨b, off + i, none⟩ = some (.int .i64 l[i])
theorem Dims.ext {w : World} {v : Value} {l : List Int} (h : Dims w v l) (y : World) : Dims (ext w y) v l := by
  obtain ⟨a, cap, h1, h2, h3, h4⟩ := h
  exact ⟨a, cap, h1, h2, h3, fun i hi => let ⟨b, off, e, hb⟩ := h4 i hi; ⟨b, off, e, cell_ext_some hb y⟩⟩
theorem Dims.below {w w' : World} {v : Value} {l : List Int} (h : Dims w v l) (hb : Below w.heap.size w w') : Dims w' v l := by
  obtain ⟨x, rfl⟩ := ext_of hb
  exact h.ext x
def BrAt (w : World) (b off : Nat) (f : Br) : Prop :=
  w.cell? ⟨b, off, none⟩ = some (.string f.mark) ∧ w.cell? ⟨b, off + 1, none⟩ = some (.int .i64 f.size) ∧ w.cell? ⟨b, off + 2, none⟩ = some (.int .i64 f.count) ∧
  w.cell? ⟨b, off + 3, none⟩ = some (.int .i64 f.code) ∧ w.cell? ⟨b, off + 4, none⟩ = some f.dv
theorem BrAt.ext {w : World} {b off : Nat} {f : Br} (h : BrAt w b off f) (y : World) : BrAt (ext w y) b off f :=
  ⟨cell_ext_some h.1 y, cell_ext_some h.2.1 y, cell_ext_some h.2.2.1 y, cell_ext_some h.2.2.2.1 y, cell_ext_some h.2.2.2.2 y⟩
/-- What a bar's parts are: its mark is no longer than a string can be, its dimensions read as they should. -/
structure BrOk (w : World) (f : Br) : Prop where
  mark : f.mark.size ≤ 9223372036854775807
  dims : Dims w f.dv f.dims
theorem BrOk.ext {w : World} {f : Br} (h : BrOk w f) (y : World) : BrOk (ext w y) f := ⟨h.mark, h.dims.ext y⟩
theorem BrOk.below {w w' : World} {f : Br} (h : BrOk w f) (hb : Below w.heap.size w w') : BrOk w' f := ⟨h.mark, h.dims.below hb⟩
/-- A slice value that reads as a list of bars. -/
def Bars (w : World) (v : Value) (l : List Br) : Prop :=
  ∃ a cap, v = .slice a l.length cap ∧ l.length ≤ cap ∧ cap ≤ 9223372036854775807 ∧ ∀ i (h : i < l.length), BrOk w l[i] ∧ ∃ b off, a = some ⟨b, off, none⟩ ∧ BrAt w b (off + i * 5) l[i]
theorem Bars.ext {w : World} {v : Value} {l : List Br} (h : Bars w v l) (y : World) : Bars (ext w y) v l := by
  obtain ⟨a, cap, h1, h2, h3, h4⟩ := h
  exact ⟨a, cap, h1, h2, h3, fun i hi => let ⟨hk, b, off, e, hb⟩ := h4 i hi; ⟨hk.ext y, b, off, e, hb.ext y⟩⟩
theorem Bars.below {w w' : World} {v : Value} {l : List Br} (h : Bars w v l) (hb : Below w.heap.size w w') : Bars w' v l := by
  obtain ⟨x, rfl⟩ := ext_of hb
  exact h.ext x
theorem Bars.shape {w : World} {v : Value} {l : List Br} (h : Bars w v l) : ∃ a cap, v = .slice a l.length cap ∧ l.length ≤ cap ∧ cap ≤ 9223372036854775807 ∧
    ∀ i (h : i < l.length), BrOk w l[i] ∧ ∃ b off, a = some ⟨b, off, none⟩ ∧ BrAt w b (off + i * 5) l[i] := h
def RnAt (w : World) (b off : Nat) (r : Rn) : Prop :=
  w.cell? ⟨b, off, none⟩ = some (.string r.mark) ∧ w.cell? ⟨b, off + 1, none⟩ = some (.int .i64 r.tx) ∧ w.cell? ⟨b, off + 2, none⟩ = some (.int .i64 r.ty) ∧
  w.cell? ⟨b, off + 3, none⟩ = some (.int .i64 r.ax) ∧ w.cell? ⟨b, off + 4, none⟩ = some (.int .i64 r.ay) ∧ w.cell? ⟨b, off + 5, none⟩ = some (.int .i64 r.az) ∧
  w.cell? ⟨b, off + 6, none⟩ = some (.int .i64 r.sx) ∧ w.cell? ⟨b, off + 7, none⟩ = some (.int .i64 r.sy) ∧ w.cell? ⟨b, off + 8, none⟩ = some (.int .i64 r.sz) ∧ w.cell? ⟨b, off + 9, none⟩ = some (.int .i64 r.count)
theorem RnAt.ext {w : World} {b off : Nat} {r : Rn} (h : RnAt w b off r) (y : World) : RnAt (ext w y) b off r := by
  obtain ⟨h0, h1, h2, h3, h4, h5, h6, h7, h8, h9⟩ := h
  exact ⟨cell_ext_some h0 y, cell_ext_some h1 y, cell_ext_some h2 y, cell_ext_some h3 y, cell_ext_some h4 y, cell_ext_some h5 y, cell_ext_some h6 y, cell_ext_some h7 y, cell_ext_some h8 y, cell_ext_some h9 y⟩
/-- A slice value that reads as a list of runs. -/
def Runs (w : World) (v : Value) (l : List Rn) : Prop :=
  ∃ a cap, v = .slice a l.length cap ∧ l.length ≤ cap ∧ cap ≤ 9223372036854775807 ∧ ∀ i (h : i < l.length), l[i].mark.size ≤ 9223372036854775807 ∧ ∃ b off, a = some ⟨b, off, none⟩ ∧ RnAt w b (off + i * 10) l[i]
theorem Runs.ext {w : World} {v : Value} {l : List Rn} (h : Runs w v l) (y : World) : Runs (ext w y) v l := by
  obtain ⟨a, cap, h1, h2, h3, h4⟩ := h
  exact ⟨a, cap, h1, h2, h3, fun i hi => let ⟨hk, b, off, e, hb⟩ := h4 i hi; ⟨hk, b, off, e, hb.ext y⟩⟩
theorem Runs.below {w w' : World} {v : Value} {l : List Rn} (h : Runs w v l) (hb : Below w.heap.size w w') : Runs w' v l := by
  obtain ⟨x, rfl⟩ := ext_of hb
  exact h.ext x
theorem Runs.shape {w : World} {v : Value} {l : List Rn} (h : Runs w v l) : ∃ a cap, v = .slice a l.length cap ∧ l.length ≤ cap ∧ cap ≤ 9223372036854775807 ∧
    ∀ i (h : i < l.length), l[i].mark.size ≤ 9223372036854775807 ∧ ∃ b off, a = some ⟨b, off, none⟩ ∧ RnAt w b (off + i * 10) l[i] := h

theorem sEq {a b : ByteArray} (h : a = b) : (a.toList == b.toList) = true := by subst h; exact beq_self_eq_true _
theorem sNe {a b : ByteArray} (h : ¬ a = b) : (a.toList == b.toList) = false := by
  rw [beq_eq_false_iff_ne]
  intro e
  rw [ByteArray.toList_eq, ByteArray.toList_eq] at e
  exact h (ByteArray.ext (Array.ext' e))
theorem sEq_iff {a b : ByteArray} : (a.toList == b.toList) = true ↔ a = b := by
  by_cases h : a = b
  · exact ⟨fun _ => h, sEq⟩
  · rw [sNe h]; exact ⟨fun e => absurd e Bool.false_ne_true, fun e => absurd e h⟩

/-- The index of a mark: -1 if there is none. -/
def findI (l : List Br) (m : ByteArray) : Int := ((l.findIdx? fun b => b.mark.toList == m.toList).map (fun i : Nat => (i : Int))).getD (-1)
theorem findI_none {l : List Br} {m : ByteArray} (h : ∀ j (h : j < l.length), (l[j].mark.toList == m.toList) = false) : findI l m = -1 := by
  unfold findI
  rw [List.findIdx?_eq_none_iff.2 fun z hz => by obtain ⟨j, hj, rfl⟩ := List.getElem_of_mem hz; exact h j hj]; rfl
theorem findI_some {l : List Br} {m : ByteArray} {k : Nat} (hk : k < l.length) (hp : (l[k].mark.toList == m.toList) = true) (h : ∀ j (hj : j < k), (l[j].mark.toList == m.toList) = false) : findI l m = k := by
  unfold findI
  rw [List.findIdx?_eq_some_iff_getElem.2 ⟨hk, hp, fun j hj => by simpa using h j hj⟩]; rfl
theorem findI_cases (l : List Br) (m : ByteArray) : (findI l m = -1 ∧ ∀ j (h : j < l.length), (l[j].mark.toList == m.toList) = false) ∨ ∃ (k : Nat) (hk : k < l.length), findI l m = k ∧ (l[k].mark.toList == m.toList) = true ∧ ∀ j (hj : j < k), (l[j].mark.toList == m.toList) = false := by
  cases h : l.findIdx? fun b => b.mark.toList == m.toList with
  | none =>
    have hn : ∀ j (h : j < l.length), (l[j].mark.toList == m.toList) = false := fun j hj => List.findIdx?_eq_none_iff.1 h _ (List.getElem_mem hj)
    exact .inl ⟨findI_none hn, hn⟩
  | some k =>
    obtain ⟨hk, hp, hno⟩ := List.findIdx?_eq_some_iff_getElem.1 h
    have hn : ∀ j (hj : j < k), (l[j].mark.toList == m.toList) = false := fun j hj => by simpa using hno j hj
    exact .inr ⟨k, hk, findI_some hk hp hn, hp, hn⟩

set_option maxRecDepth 100000 in
set_option maxHeartbeats 1000000 in
theorem indexBar_c (F : Nat) (hE : Enters F) (caps : Array Value) (m : ByteArray) (l : List Br) (v : Value) (w : World) (hl : Bars w v l)
    (hf : ∀ b x, b ∈ l → Calls Tryz.prog F (#[(.agg #[.string b.mark, .int .i64 b.size, .int .i64 b.count, .int .i64 b.code, b.dv])] ++ caps) (ext w x) (Ret (ext w x) (.bool (b.mark.toList == m.toList)))) :
    Calls Tryz.prog 103 #[v, .func (.func F) #[] caps] w (Ret w (.int .i64 (findI l m))) := by
  obtain ⟨a, cap, rfl, h2, h3, h4⟩ := hl
  by_cases hnil : l = []
  · subst hnil
    clear hf hE h4
    go_enter Tryz.func103, Tryz.ntmps103
    go_wp2
    refine wp_loop_rounds 1 ?_
    rw [rounds_succ]
    go_wp2
    go_ret
    exact Ret.of (by (repeat (first | exact grow_refl _ | refine grow_ext _ ?_ | refine grow_alloc _ ?_ | refine grow_drew ?_)))
  · have HF := Lib.hid hf
    clear hf
    clear hnil
    have hn : l.length ≤ 9223372036854775807 := by omega
    have H4 := Lib.hid h4
    clear h4
    go_enter Tryz.func103, Tryz.ntmps103
    go_wp2
    go_loopw [8, 5] (fun i j wr => ∃ k : Nat, k ≤ l.length ∧ i = .int .i64 k ∧ (∃ x, wr = ext w x) ∧ ∀ j (h : j < k) (h' : j < l.length), (l[j].mark.toList == m.toList) = false) (fun i j _ => l.length - (intOf i).toNat)
    case atStart => exact ⟨0, by omega, rfl, ext_of (Below.refl _ _), fun j h => by omega⟩
    case round =>
      obtain ⟨k, hk, rfl, ⟨x, rfl⟩, hno⟩ := hrel
      have HNO := Lib.hid hno
      clear hno
      by_cases hlt : k < l.length
      · obtain ⟨b, off, rfl, hb⟩ := (H4.out k hlt).2
        obtain ⟨c0, c1, c2, c3, c4⟩ := hb.ext x
        have hcall := HF.out l[k] x (List.getElem_mem hlt)
        have q1 : (0 : Int) ≤ (k : Int) := by omega
        have q2 : (k : Int) < (l.length : Int) := by omega
        obtain ⟨f, hf⟩ : ∃ f, f = l[k] := ⟨_, rfl⟩
        rw [← hf] at c0 c1 c2 c3 c4 hcall
        have HK := Lib.hid hf
        have HC := Lib.hid hcall
        clear hf hb hcall
        go_wp2_with fail
        rw [show ∀ (a : Array Value) (w : World), (callFunc F a).run Tryz.prog w = .ok (.enter F a) w from hE, Oper.upon_enter]
        refine HC.out.mono ?_
        rintro e w' ⟨rfl, y, rfl⟩
        clear c0 c1 c2 c3 c4
        cases hp : (f.mark.toList == m.toList)
        · have HP := Lib.hid (show (l[k].mark.toList == m.toList) = false by rw [← HK.out]; exact hp)
          clear hp
          go_wp2
          go_roundw
          case rel => exact ⟨k + 1, by omega, by go_num, ⟨_, ext_ext _ _ _⟩, fun j h1 h2 => by
            rcases Nat.lt_or_ge j k with h | h
            · exact HNO.out j h h2
            · obtain rfl : j = k := by omega
              exact HP.out⟩
          case measure => simp [intOf]; omega
        · have he : findI l m = k := findI_some hlt (by rw [← HK.out]; exact hp) (fun j hj => HNO.out j hj (by omega))
          have HE := Lib.hid he
          clear he hp
          go_wp2
          go_ret
          rw [HE.out]
          exact Ret.of (by (repeat (first | exact grow_refl _ | refine grow_ext _ ?_ | refine grow_alloc _ ?_ | refine grow_drew ?_)))
      · have he : findI l m = -1 := findI_none fun j hj => HNO.out j (by omega) hj
        have HE := Lib.hid he
        clear he
        go_wp2
        go_ret
        rw [HE.out]
        exact Ret.of (by (repeat (first | exact grow_refl _ | refine grow_ext _ ?_ | refine grow_alloc _ ?_ | refine grow_drew ?_)))

end Go.Proofs.YtmhhohancconaaaGreat

namespace Go.Proofs.YtmhhohancconaaaGreat
open Go.RowKit
set_option maxRecDepth 20000

def Blk (w : World) (k : Nat) (cs : Array Value) (t : TypeId) : Prop := w.heap[k]? = some (.cells cs t (0, 0))
theorem Blk.lt {w : World} {k : Nat} {cs : Array Value} {t : TypeId} (h : Blk w k cs t) : k < w.heap.size := lt_of_block h
theorem Blk.cell {w : World} {k : Nat} {cs : Array Value} {t : TypeId} (h : Blk w k cs t) (i : Nat) : w.cell? ⟨k, i, none⟩ = cs[i]? := by
  unfold Blk at h; simp [World.cell?, h]
theorem Blk.frozen {w : World} {k : Nat} {cs : Array Value} {t : TypeId} (h : Blk w k cs t) (i : Nat) : w.frozen? ⟨k, i, none⟩ = false := by
  unfold Blk at h; simp [World.frozen?, h]
theorem Blk.of_block {w w' : World} {k : Nat} {cs : Array Value} {t : TypeId} (h : Blk w k cs t) (e : w'.heap[k]? = w.heap[k]?) : Blk w' k cs t := e.trans h
theorem Blk.alloc {w : World} {k : Nat} {cs : Array Value} {t : TypeId} (h : Blk w k cs t) (o : Obj) : Blk (w.alloc o) k cs t := h.of_block (Below.heap_alloc _ _ _ h.lt)
theorem Blk.new (w : World) (cs : Array Value) (t : TypeId) : Blk (w.alloc (.cells cs t)) w.heap.size cs t := heap_alloc_new w _
theorem Blk.new' {w : World} {k : Nat} (hk : k = w.heap.size) (cs : Array Value) (t : TypeId) : Blk (w.alloc (.cells cs t)) k cs t := by subst hk; exact Blk.new _ _ _
theorem Blk.ext {w : World} {k : Nat} {cs : Array Value} {t : TypeId} (h : Blk w k cs t) (x : World) : Blk (ext w x) k cs t := h.of_block ((below_ext w x).block k h.lt)
theorem Blk.below {w w' : World} {k : Nat} {cs : Array Value} {t : TypeId} (h : Blk w k cs t) (hb : Below w.heap.size w w') : Blk w' k cs t := h.of_block (hb.block k h.lt)
theorem Blk.other {w : World} {k : Nat} {cs : Array Value} {t : TypeId} (h : Blk w k cs t) {a : Addr} (hne : k ≠ a.block) (u : Value) : Blk (w.setCell a u) k cs t := h.of_block (Below.heap_setCell w a u k hne)
theorem Blk.set {w : World} {k : Nat} {cs : Array Value} {t : TypeId} (h : Blk w k cs t) (i : Nat) (u : Value) : Blk (w.setCell ⟨k, i, none⟩ u) k (cs.setIfInBounds i u) t := by
  have hlt := lt_of_block h
  have h' : w.heap[k] = .cells cs t (0, 0) := by unfold Blk at h; simpa [Array.getElem?_eq_getElem hlt] using h
  show (w.heap.modify k _)[k]? = _
  rw [Array.getElem?_eq_getElem (by simpa using hlt), Array.getElem_modify_self, h']; rfl
theorem Blk.grown {w w' : World} {k : Nat} {cs : Array Value} {t : TypeId} (h : Blk w k cs t) {row : Option Nat} (hg : w.grownBy w' row) (hne : some k ≠ row) : Blk w' k cs t := h.of_block (hg.block k h.lt hne)
/-- A row of other elements lies in another block. -/
theorem Blk.ne_row {w : World} {k : Nat} {cs : Array Value} {t : TypeId} (h : Blk w k cs t) {base s n : Nat} {e : TypeId} {v : Value} {xs : List Value} (ho : w.ownsRow base e s v n xs) (he : t ≠ e) : some k ≠ v.ownBlock := by
  rcases ho.2 with ⟨rfl, _⟩ | ⟨g, cap, cur, rfl, _, g1, _⟩
  · simp [Value.ownBlock]
  · intro q
    simp only [Value.ownBlock, Option.some.injEq] at q
    subst q
    unfold Blk at h
    rw [g1] at h
    cases h
    exact he rfl
theorem own_base_ne {w : World} {k base s n : Nat} {e : TypeId} {v : Value} {xs : List Value} (ho : w.ownsRow base e s v n xs) (h : k < base) : some k ≠ v.ownBlock := fun q => by have := (ho.lt k q.symm).1; omega

theorem app_own_b {P : Program} {ops : Array Oper} {rest : List Oper} {o : Oper} {a : Act} {Q : Exit → Act → World → Prop} (hgd : o.guard = none) (s x : Operand) (t : TypeId)
    (ho : o.op = .call { callee := .builtin .append, args := #[s, x], argTypes := #[t, t] })
    (e : TypeId) (z : Value) (size bytes : Nat) (ht : P.underlying t = some (.slice e)) (hi : (P.info? e).map (fun i => (i.zero, i.size, i.bytes)) = some (some z, size, bytes)) (hzs : z.cells.size = size) (hsz : 0 < size)
    (base : Nat) (v : Value) (n : Nat) (xs : List Value) (w : World) (hs : a.eval s = v) (hown : w.ownsRow base e size v n xs)
    (g m c : Nat) (news : List Value) (hx : a.eval x = .slice (some ⟨g, 0, none⟩) m c) (hl : news.length = m * size) (hnews : ∀ j u, news[j]? = some u → w.cell? ((⟨g, 0, none⟩ : Addr).add j) = some u) (h1 : ∀ u ∈ news, u.oneCell' = true)
    (hroom : (n + m) * bytes ≤ 140737488355328) (hby : 0 < bytes) (hB : base ≤ w.heap.size)
    (h : ∀ v' w', w'.ownsRow base e size v' (n + m) (xs ++ news) → w.grownBy w' v.ownBlock → wpList P ops Q rest (a.put o.dst v') w') : wpList P ops Q (o :: rest) a w := by
  obtain ⟨i0, hi, hz0, hz1, hz2⟩ := info_parts hi
  have h63 : n + m ≤ maxLen := by
    unfold maxLen
    have := Nat.le_mul_of_pos_right (n + m) hby
    omega
  refine wpList_append_own w hgd s x t ho base e i0 z size bytes ht hi hz0 hz1 hz2 hzs hsz v n xs hs hown ⟨g, 0, none⟩ m c news hx hl hnews h1 h63 hroom hB ?_
  intro v' w' hown' hgrow _
  exact h v' w' hown' hgrow

def PtAt (w : World) (b off : Nat) (p : Pt) : Prop :=
  w.cell? ⟨b, off, none⟩ = some (.int .i64 p.x) ∧ w.cell? ⟨b, off + 1, none⟩ = some (.int .i64 p.y) ∧ w.cell? ⟨b, off + 2, none⟩ = some (.int .i64 p.z)
theorem PtAt.ext {w : World} {b off : Nat} {p : Pt} (h : PtAt w b off p) (y : World) : PtAt (ext w y) b off p := ⟨cell_ext_some h.1 y, cell_ext_some h.2.1 y, cell_ext_some h.2.2 y⟩
/-- A slice value that reads as a list of points. -/
def Pts (w : World) (v : Value) (l : List Pt) : Prop :=
  ∃ a cap, v = .slice a l.length cap ∧ l.length ≤ cap ∧ cap ≤ 9223372036854775807 ∧ ∀ i (h : i < l.length), ∃ b off, a = some ⟨b, off, none⟩ ∧ PtAt w b (off + i * 3) l[i]
theorem Pts.ext {w : World} {v : Value} {l : List Pt} (h : Pts w v l) (y : World) : Pts (ext w y) v l := by
  obtain ⟨a, cap, h1, h2, h3, h4⟩ := h
  exact ⟨a, cap, h1, h2, h3, fun i hi => let ⟨b, off, e, hb⟩ := h4 i hi; ⟨b, off, e, hb.ext y⟩⟩
theorem Pts.below {w w' : World} {v : Value} {l : List Pt} (h : Pts w v l) (hb : Below w.heap.size w w') : Pts w' v l := by
  obtain ⟨x, rfl⟩ := ext_of hb
  exact h.ext x
theorem Pts.shape {w : World} {v : Value} {l : List Pt} (h : Pts w v l) : ∃ a cap, v = .slice a l.length cap ∧ l.length ≤ cap ∧ cap ≤ 9223372036854775807 ∧ ∀ i (h : i < l.length), ∃ b off, a = some ⟨b, off, none⟩ ∧ PtAt w b (off + i * 3) l[i] := h

def ptCells (l : List Pt) : List Value := l.flatMap fun p => [.int .i64 p.x, .int .i64 p.y, .int .i64 p.z]
theorem ptCells_length (l : List Pt) : (ptCells l).length = l.length * 3 := by
  unfold ptCells
  induction l with
  | nil => rfl
  | cons a l ih => simp only [List.flatMap_cons, List.length_append, ih, List.length_cons, List.length_nil]; omega
theorem ptCells_append (a b : List Pt) : ptCells (a ++ b) = ptCells a ++ ptCells b := by unfold ptCells; rw [List.flatMap_append]
theorem ptCells_one (l : List Pt) : ∀ u ∈ ptCells l, u.oneCell' = true := by
  intro u hu
  unfold ptCells at hu
  obtain ⟨b, _, hb⟩ := List.mem_flatMap.1 hu
  simp only [List.mem_cons, List.not_mem_nil, or_false] at hb
  rcases hb with rfl | rfl | rfl <;> rfl
theorem ptCells_get (l : List Pt) (i : Nat) (h : i < l.length) : (ptCells l)[i * 3]? = some (.int .i64 l[i].x) ∧ (ptCells l)[i * 3 + 1]? = some (.int .i64 l[i].y) ∧ (ptCells l)[i * 3 + 2]? = some (.int .i64 l[i].z) := by
  induction l generalizing i with
  | nil => simp at h
  | cons a l ih =>
    cases i with
    | zero => simp [ptCells]
    | succ i =>
      have := ih i (by simpa using h)
      have hc : ∀ k, (ptCells (a :: l))[(i + 1) * 3 + k]? = (ptCells l)[i * 3 + k]? := fun k => by
        rw [show (i + 1) * 3 + k = (i * 3 + k) + 1 + 1 + 1 by omega]
        simp only [ptCells, List.flatMap_cons, List.cons_append, List.nil_append, List.getElem?_cons_succ]
      have h0 := hc 0
      rw [Nat.add_zero, Nat.add_zero] at h0
      rw [h0, hc, hc]
      exact this
theorem Pts.of_own {w : World} {base : Nat} {e : TypeId} {v : Value} {l : List Pt} (h : w.ownsRow base e 3 v l.length (ptCells l)) : Pts w v l := by
  obtain ⟨a, cap, rfl, h1, h2, h3⟩ := own_shape h
  unfold maxLen at h2
  refine ⟨a, cap, rfl, h1, by omega, fun i hi => ?_⟩
  obtain ⟨g, rfl, _, hc⟩ := h3 (by omega)
  obtain ⟨p0, p1, p2⟩ := ptCells_get l i hi
  refine ⟨g, 0, rfl, ?_⟩
  rw [Nat.zero_add]
  exact ⟨by rw [hc _ (by omega), p0], by rw [hc _ (by omega), p1], by rw [hc _ (by omega), p2]⟩
theorem info_pt : (Tryz.prog.info? 54).map (fun i => (i.zero, i.size, i.bytes)) = some (some (.agg #[.int .i64 0, .int .i64 0, .int .i64 0]), 3, 24) := by kernel_rfl
theorem own_pts {W : World} {M : Nat} {e : TypeId} {v : Value} {n : Nat} {l : List Pt} {p : Pt} (h : W.ownsRow M e 3 v (n + 1) (ptCells l ++ ptCells [p])) (hn : n = l.length) : W.ownsRow M e 3 v (l ++ [p]).length (ptCells (l ++ [p])) := by
  subst hn
  rw [ptCells_append, List.length_append]; exact h

end Go.Proofs.YtmhhohancconaaaGreat

namespace Go.Proofs.YtmhhohancconaaaGreat
open Go.RowKit
set_option maxRecDepth 20000

structure Rc where
  box : Bx
  bar : Int
def RcAt (w : World) (b off : Nat) (c : Rc) : Prop :=
  w.cell? ⟨b, off, none⟩ = some (.int .i64 c.box.lx) ∧ w.cell? ⟨b, off + 1, none⟩ = some (.int .i64 c.box.ly) ∧ w.cell? ⟨b, off + 2, none⟩ = some (.int .i64 c.box.lz) ∧
  w.cell? ⟨b, off + 3, none⟩ = some (.int .i64 c.box.hx) ∧ w.cell? ⟨b, off + 4, none⟩ = some (.int .i64 c.box.hy) ∧ w.cell? ⟨b, off + 5, none⟩ = some (.int .i64 c.box.hz) ∧
  w.cell? ⟨b, off + 6, none⟩ = some (.int .i64 c.bar)
theorem RcAt.ext {w : World} {b off : Nat} {c : Rc} (h : RcAt w b off c) (y : World) : RcAt (ext w y) b off c := by
  obtain ⟨h0, h1, h2, h3, h4, h5, h6⟩ := h
  exact ⟨cell_ext_some h0 y, cell_ext_some h1 y, cell_ext_some h2 y, cell_ext_some h3 y, cell_ext_some h4 y, cell_ext_some h5 y, cell_ext_some h6 y⟩
/-- A slice value that reads as a list of the reference's cuts. -/
def Rcs (w : World) (v : Value) (l : List Rc) : Prop :=
  ∃ a cap, v = .slice a l.length cap ∧ l.length ≤ cap ∧ cap ≤ 9223372036854775807 ∧ ∀ i (h : i < l.length), ∃ b off, a = some ⟨b, off, none⟩ ∧ RcAt w b (off + i * 7) l[i]
theorem Rcs.ext {w : World} {v : Value} {l : List Rc} (h : Rcs w v l) (y : World) : Rcs (ext w y) v l := by
  obtain ⟨a, cap, h1, h2, h3, h4⟩ := h
  exact ⟨a, cap, h1, h2, h3, fun i hi => let ⟨b, off, e, hb⟩ := h4 i hi; ⟨b, off, e, hb.ext y⟩⟩
theorem Rcs.below {w w' : World} {v : Value} {l : List Rc} (h : Rcs w v l) (hb : Below w.heap.size w w') : Rcs w' v l := by
  obtain ⟨x, rfl⟩ := ext_of hb
  exact h.ext x
theorem Rcs.shape {w : World} {v : Value} {l : List Rc} (h : Rcs w v l) : ∃ a cap, v = .slice a l.length cap ∧ l.length ≤ cap ∧ cap ≤ 9223372036854775807 ∧ ∀ i (h : i < l.length), ∃ b off, a = some ⟨b, off, none⟩ ∧ RcAt w b (off + i * 7) l[i] := h
def rcCells (l : List Rc) : List Value := l.flatMap fun c => [.int .i64 c.box.lx, .int .i64 c.box.ly, .int .i64 c.box.lz, .int .i64 c.box.hx, .int .i64 c.box.hy, .int .i64 c.box.hz, .int .i64 c.bar]
theorem rcCells_append (a b : List Rc) : rcCells (a ++ b) = rcCells a ++ rcCells b := by unfold rcCells; rw [List.flatMap_append]
theorem rcCells_one (l : List Rc) : ∀ u ∈ rcCells l, u.oneCell' = true := by
  intro u hu
  unfold rcCells at hu
  obtain ⟨b, _, hb⟩ := List.mem_flatMap.1 hu
  simp only [List.mem_cons, List.not_mem_nil, or_false] at hb
  rcases hb with rfl | rfl | rfl | rfl | rfl | rfl | rfl <;> rfl
theorem rcCells_get (l : List Rc) (i : Nat) (h : i < l.length) : (rcCells l)[i * 7]? = some (.int .i64 l[i].box.lx) ∧ (rcCells l)[i * 7 + 1]? = some (.int .i64 l[i].box.ly) ∧ (rcCells l)[i * 7 + 2]? = some (.int .i64 l[i].box.lz) ∧
    (rcCells l)[i * 7 + 3]? = some (.int .i64 l[i].box.hx) ∧ (rcCells l)[i * 7 + 4]? = some (.int .i64 l[i].box.hy) ∧ (rcCells l)[i * 7 + 5]? = some (.int .i64 l[i].box.hz) ∧ (rcCells l)[i * 7 + 6]? = some (.int .i64 l[i].bar) := by
  induction l generalizing i with
  | nil => simp at h
  | cons a l ih =>
    cases i with
    | zero => simp [rcCells]
    | succ i =>
      have := ih i (by simpa using h)
      have hc : ∀ k, (rcCells (a :: l))[(i + 1) * 7 + k]? = (rcCells l)[i * 7 + k]? := fun k => by
        rw [show (i + 1) * 7 + k = (i * 7 + k) + 1 + 1 + 1 + 1 + 1 + 1 + 1 by omega]
        simp only [rcCells, List.flatMap_cons, List.cons_append, List.nil_append, List.getElem?_cons_succ]
      have h0 := hc 0
      rw [Nat.add_zero, Nat.add_zero] at h0
      rw [h0, hc, hc, hc, hc, hc, hc]
      exact this
theorem Rcs.of_own {w : World} {base : Nat} {e : TypeId} {v : Value} {l : List Rc} (h : w.ownsRow base e 7 v l.length (rcCells l)) : Rcs w v l := by
  obtain ⟨a, cap, rfl, h1, h2, h3⟩ := own_shape h
  unfold maxLen at h2
  refine ⟨a, cap, rfl, h1, by omega, fun i hi => ?_⟩
  obtain ⟨g, rfl, _, hc⟩ := h3 (by omega)
  obtain ⟨p0, p1, p2, p3, p4, p5, p6⟩ := rcCells_get l i hi
  refine ⟨g, 0, rfl, ?_⟩
  rw [Nat.zero_add]
  exact ⟨by rw [hc _ (by omega), p0], by rw [hc _ (by omega), p1], by rw [hc _ (by omega), p2], by rw [hc _ (by omega), p3], by rw [hc _ (by omega), p4], by rw [hc _ (by omega), p5], by rw [hc _ (by omega), p6]⟩
theorem own_rcs {W : World} {M : Nat} {e : TypeId} {v : Value} {n : Nat} {l : List Rc} {c : Rc} (h : W.ownsRow M e 7 v (n + 1) (rcCells l ++ rcCells [c])) (hn : n = l.length) : W.ownsRow M e 7 v (l ++ [c]).length (rcCells (l ++ [c])) := by
  subst hn
  rw [rcCells_append, List.length_append]; exact h

end Go.Proofs.YtmhhohancconaaaGreat


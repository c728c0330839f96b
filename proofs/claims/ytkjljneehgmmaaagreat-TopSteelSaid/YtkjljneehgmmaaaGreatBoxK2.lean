/- Own, BoxF, BoxG, PlainA, BoxH, BoxI in one text. -/
import Derived.Test.YtkjljneehgmmaaaGreatBoxK
import Derived.Test.YtkjljneehgmmaaaGreatShelf
import Derived.Sort.OwnSortedInts
import Derived.Lib.RowBridge
import Derived.Deep.RegionLaw
import Derived.Test.YtkjljneehgmmaaaGreatExtK
namespace Go.Proofs.YtkjljneehgmmaaaGreat
open Go.RowKit Go.Sort
set_option maxRecDepth 20000

theorem grownBy_ext (w x : World) (row : Option Nat) : w.grownBy (ext w x) row :=
 ⟨(below_ext w x).os, (below_ext w x).tape, (below_ext w x).output, (below_ext w x).size, fun k hk _ => (below_ext w x).block k hk⟩

theorem own_ext {w : World} {base : Nat} {e : TypeId} {s : Nat} {v : Value} {n : Nat} {xs : List Value} (h : w.ownsRow base e s v n xs) (x : World) : (ext w x).ownsRow base e s v n xs := by
 refine h.kept (row := none) (grownBy_ext w x none) ?_
 cases hv : v.ownBlock <;> simp

theorem own_mono {w : World} {base base' : Nat} {e : TypeId} {s : Nat} {v : Value} {n : Nat} {xs : List Value} (h : w.ownsRow base e s v n xs) (hb : base' ≤ base) : w.ownsRow base' e s v n xs := by
 refine ⟨h.1, ?_⟩
 rcases h.2 with h | ⟨g, cap, cur, h1, h2, h3⟩
 ·exact .inl h
 ·exact .inr ⟨g, cap, cur, h1, by omega, h3⟩

theorem own_lit {base : Nat} {e : TypeId} {s : Nat} (w : World) (cs : Array Value) (n g : Nat) (xs : List Value) (hg : g = w.heap.size) (hb : base ≤ w.heap.size) (hm : n ≤ maxLen) (hs : cs.size = n * s) (hx : cs.toList = xs) :
  (w.alloc (.cells cs e)).ownsRow base e s (.slice (some ⟨g, 0, none⟩) n n) n xs := by
 subst hg hx; exact World.ownsRow_lit w cs n hb hm hs

theorem ext_grown {w x w' : World} {row : Option Nat} (hg : (ext w x).grownBy w' row) (hr : ∀ k, row = some k → w.heap.size ≤ k) : ∃ y, w' = ext w y :=
 ext_of ((below_ext w x).grown hg (by rw [size_ext]; omega) hr)

theorem own_row {w : World} {base : Nat} {e : TypeId} {s : Nat} {v : Value} {n : Nat} {xs : List Value} (h : w.ownsRow base e s v n xs) : ∀ k, v.ownBlock = some k → base ≤ k := fun k hk => (h.lt k hk).1

def RetOwn (w : World) (e : TypeId) (s n : Nat) (xs : List Value) (en : Ending) (w' : World) : Prop :=
 ∃ v, en = .returned v ∧ w'.ownsRow w.heap.size e s v n xs ∧ ∃ x, w' = ext w x

theorem cells_new {w : World} {g : Nat} (hg : g = w.heap.size) (cs : Array Value) (t : TypeId) (xs : List Value) (hx : cs.toList = xs) : ∀ j u, xs[j]? = some u → (w.alloc (.cells cs t)).cell? ((⟨g, 0, none⟩ : Addr).add j) = some u := by
 subst hg hx
 intro j u hj
 have e : (⟨w.heap.size, 0, none⟩ : Addr).add j = ⟨w.heap.size, j, none⟩ := by
  simp only [Addr.add, Nat.zero_add]; split
  ·rename_i h; rw [h]
  ·rfl
 rw [e, World.cell?_alloc_new, ← Array.getElem?_toList]; exact hj

theorem app_own {P : Program} {ops : Array Oper} {rest : List Oper} {o : Oper} {a : Act} {Q : Exit → Act → World → Prop} (hgd : o.guard = none) (s x : Operand) (t : TypeId)
  (ho : o.op = .call { callee := .builtin .append, args := #[s, x], argTypes := #[t, t] })
  (e : TypeId) (z : Value) (size bytes : Nat) (ht : P.underlying t = some (.slice e)) (hi : (P.info? e).map (fun i => (i.zero, i.size, i.bytes)) = some (some z, size, bytes)) (hzs : z.cells.size = size) (hsz : 0 < size)
  (B : World) (v : Value) (n : Nat) (xs : List Value) (w : World) (hs : a.eval s = v) (hown : w.ownsRow B.heap.size e size v n xs)
  (g m c : Nat) (news : List Value) (hx : a.eval x = .slice (some ⟨g, 0, none⟩) m c) (hl : news.length = m * size) (hnews : ∀ j u, news[j]? = some u → w.cell? ((⟨g, 0, none⟩ : Addr).add j) = some u) (h1 : ∀ u ∈ news, u.oneCell' = true)
  (hroom : (n + m) * bytes ≤ 140737488355328) (hby : 0 < bytes) (hB : Below B.heap.size B w)
  (h : ∀ v' y, (ext B y).ownsRow B.heap.size e size v' (n + m) (xs ++ news) → w.grownBy (ext B y) v.ownBlock → wpList P ops Q rest (a.put o.dst v') (ext B y)) : wpList P ops Q (o :: rest) a w := by
 obtain ⟨i0, hi, hz0, hz1, hz2⟩ := info_parts hi
 have h63 : n + m ≤ maxLen := by
  unfold maxLen
  have := Nat.le_mul_of_pos_right (n + m) hby
  omega
 refine wpList_append_own w hgd s x t ho B.heap.size e i0 z size bytes ht hi hz0 hz1 hz2 hzs hsz v n xs hs hown ⟨g, 0, none⟩ m c news hx hl hnews h1 h63 hroom hB.size ?_
 intro v' w' hown' hgrow _
 obtain ⟨y, rfl⟩ := ext_of (hB.grown hgrow hB.size (own_row hown))
 exact h v' y hown' hgrow

theorem step_app_own {P : Program} {ops : Array Oper} {o : Oper} {a : Act} {K : Act → World → Prop} {Q : Exit → Act → World → Prop} {E : Prop} (hgd : o.guard = none) (s x : Operand) (t : TypeId)
  (ho : o.op = .call { callee := .builtin .append, args := #[s, x], argTypes := #[t, t] })
  (e : TypeId) (z : Value) (size bytes : Nat) (ht : P.underlying t = some (.slice e)) (hi : (P.info? e).map (fun i => (i.zero, i.size, i.bytes)) = some (some z, size, bytes)) (hzs : z.cells.size = size) (hsz : 0 < size)
  (B : World) (v : Value) (n : Nat) (xs : List Value) (w : World) (hs : a.eval s = v) (hown : w.ownsRow B.heap.size e size v n xs)
  (g m c : Nat) (news : List Value) (hx : a.eval x = .slice (some ⟨g, 0, none⟩) m c) (hl : news.length = m * size) (hnews : ∀ j u, news[j]? = some u → w.cell? ((⟨g, 0, none⟩ : Addr).add j) = some u) (h1 : ∀ u ∈ news, u.oneCell' = true)
  (hroom : (n + m) * bytes ≤ 140737488355328) (hby : 0 < bytes) (hB : Below B.heap.size B w)
  (h : ∀ v' y, (ext B y).ownsRow B.heap.size e size v' (n + m) (xs ++ news) → w.grownBy (ext B y) v.ownBlock → K (a.put o.dst v') (ext B y)) :
  if Region.wanted o (yielded ops a.tmps) = true then Oper.wp P o a w K Q else E := by
 obtain ⟨i0, hi, hz0, hz1, hz2⟩ := info_parts hi
 have h63 : n + m ≤ maxLen := by
  unfold maxLen
  have := Nat.le_mul_of_pos_right (n + m) hby
  omega
 rw [if_pos (by simp [Region.wanted, hgd])]
 refine wp_append_own w s x t ho B.heap.size e i0 z size bytes ht hi hz0 hz1 hz2 hzs hsz v n xs hs hown ⟨g, 0, none⟩ m c news hx hl hnews h1 h63 hroom hB.size ?_
 intro v' w' hown' hgrow _
 obtain ⟨y, rfl⟩ := ext_of (hB.grown hgrow hB.size (own_row hown))
 exact h v' y hown' hgrow

theorem own_drew {w : World} {base : Nat} {e : TypeId} {s : Nat} {v : Value} {n : Nat} {xs : List Value} (h : w.ownsRow base e s v n xs) : w.drew.ownsRow base e s v n xs := h
theorem cells_new_drew {w : World} {g : Nat} (hg : g = w.heap.size) (cs : Array Value) (t : TypeId) (xs : List Value) (hx : cs.toList = xs) : ∀ j u, xs[j]? = some u → (w.alloc (.cells cs t)).drew.cell? ((⟨g, 0, none⟩ : Addr).add j) = some u := cells_new hg cs t xs hx

theorem own_ne {w : World} {b1 b2 : Nat} {e1 e2 : TypeId} {s1 s2 : Nat} {v1 v2 : Value} {n1 n2 : Nat} {x1 x2 : List Value} (h1 : w.ownsRow b1 e1 s1 v1 n1 x1) (h2 : w.ownsRow b2 e2 s2 v2 n2 x2) (he : e1 ≠ e2) : v1.ownBlock = none ∨ v1.ownBlock ≠ v2.ownBlock := by
 rcases h1.2 with ⟨rfl, _⟩ | ⟨g, cap, cur, rfl, _, g1, _⟩
 ·exact .inl rfl
 ·rcases h2.2 with ⟨rfl, _⟩ | ⟨g', cap', cur', rfl, _, g2, _⟩
  ·exact .inr (by simp [Value.ownBlock])
  ·refine .inr (fun e => ?_)
   simp only [Value.ownBlock, Option.some.injEq] at e
   subst e
   rw [g1] at g2
   cases g2
   exact he rfl

theorem own_shape {w : World} {base : Nat} {e : TypeId} {s : Nat} {v : Value} {n : Nat} {xs : List Value} (h : w.ownsRow base e s v n xs) : ∃ a cap, v = .slice a n cap ∧ n ≤ cap ∧ cap ≤ maxLen ∧ (0 < n → ∃ g, a = some ⟨g, 0, none⟩ ∧ base ≤ g ∧ ∀ j, j < n * s → w.cell? ⟨g, j, none⟩ = xs[j]?) := by
 rcases h.2 with ⟨rfl, rfl⟩ | ⟨g, cap, cur, rfl, h1, h2, h3, h4, h5, h6⟩
 ·exact ⟨none, 0, rfl, Nat.le_refl _, Nat.zero_le _, fun h => by omega⟩
 ·exact ⟨_, _, rfl, h3, h4, fun _ => ⟨g, rfl, h1, fun j hj => h.cellAt j hj⟩⟩

def sorted (zs : List Int) : List Int := zs.mergeSort fun x y => decide (x ≤ y)
theorem length_sorted (zs : List Int) : (sorted zs).length = zs.length := List.length_mergeSort _

theorem sort_own {base : Nat} (v : Value) (zs : List Int) (w : World) (h : w.ownsRow base 3 1 v zs.length (zs.map (Value.int .i64))) (hn : zs.length < 4611686018427387904) :
  Calls Tryz.prog 26 #[v] w fun e w' => e = .returned (.tuple #[]) ∧ w'.ownsRow base 3 1 v (sorted zs).length ((sorted zs).map (Value.int .i64)) ∧ w.grownBy w' v.ownBlock := by
 rcases h.2 with ⟨rfl, h0⟩ | ⟨g, cap, cur, rfl, h1, h2, h3, h4, h5, h6⟩
 ·have hz : zs = [] := List.eq_nil_of_length_eq_zero h0
  subst hz
  refine (Tryz.slices_Sort_int_none none 0 w).mono ?_
  rintro e w' ⟨rfl, rfl⟩
  exact ⟨rfl, by simpa [sorted] using h, ⟨rfl, rfl, rfl, Nat.le_refl _, fun _ _ _ => rfl⟩⟩
 ·rw [Nat.mul_one] at h6
  refine (Tryz.slices_Sort_int g 0 cap zs w (holds_of_blockI h2 h6) (Array.getElem?_eq_some_iff.1 h2).1 hn).mono ?_
  rintro e w' ⟨rfl, n, os, rfl⟩
  exact ⟨rfl, by rw [length_sorted]; exact ownsRow_sortedI (length_sorted zs) h1 h2 h3 h4 h5, grownBy_sortedI _⟩

theorem compact_own {base : Nat} (v : Value) (zs : List Int) (w : World) (h : w.ownsRow base 3 1 v zs.length (zs.map (Value.int .i64))) (hn : zs.length < 4611686018427387904) :
  Calls Tryz.prog 75 #[v] w fun e w' => ∃ v', e = .returned v' ∧ w'.ownsRow base 3 1 v' (Lib.compact zs).length ((Lib.compact zs).map (Value.int .i64)) ∧ w.grownBy w' v.ownBlock ∧ v'.ownBlock = v.ownBlock := by
 rcases h.2 with ⟨rfl, h0⟩ | ⟨g, cap, cur, rfl, h1, h2, h3, h4, h5, h6⟩
 ·have hz : zs = [] := List.eq_nil_of_length_eq_zero h0
  subst hz
  refine (Tryz.slices_Compact_int_empty none 0 w).mono ?_
  rintro e w' ⟨rfl, rfl⟩
  exact ⟨_, rfl, by simpa [Lib.compact, Lib.compactUpTo] using h, ⟨rfl, rfl, rfl, Nat.le_refl _, fun _ _ _ => rfl⟩, rfl⟩
 ·rw [Nat.mul_one] at h6
  refine (Tryz.slices_Compact_int g 0 cap zs w (holds_of_blockI h2 h6) (by omega) h3).mono ?_
  rintro e w' ⟨rfl, q, rfl⟩
  have hg := grownBy_sortedI (w := w) (g := g) (n := q) (os := #[]) (Lib.compact zs ++ List.replicate (zs.length - (Lib.compact zs).length) 0).toArray
  rw [grow_empty] at hg
  have hb := heap_sortedI (w := w) (g := g) (n := q) (os := #[]) (Lib.compact zs ++ List.replicate (zs.length - (Lib.compact zs).length) 0).toArray h2
  rw [grow_empty] at hb
  have hl : (Lib.compact zs).length ≤ zs.length := Lib.compact_length_le zs
  refine ⟨_, rfl, ⟨by simp, .inr ⟨g, cap, _, rfl, h1, hb, by omega, h4, by simp [putCells, h5], ?_⟩⟩, hg, rfl⟩
  have ht := take_putCellsI cur (Lib.compact zs ++ List.replicate (zs.length - (Lib.compact zs).length) 0) (by simp; omega)
  have := congrArg (List.take (Lib.compact zs).length) ht
  rw [List.take_take, Nat.min_eq_left (by simp), List.map_append, List.take_left' (by simp)] at this
  rw [Nat.mul_one]; exact this

end Go.Proofs.YtkjljneehgmmaaaGreat

namespace Go.Proofs.YtkjljneehgmmaaaGreat
open Go.RowKit
set_option maxRecDepth 20000
set_option maxHeartbeats 1000000

def inner (lo hi : Int) (k : Int) (x : Bx) : List Int := (if lo < x.lo k ∧ x.lo k < hi then [x.lo k] else []) ++ (if lo < x.hi k ∧ x.hi k < hi then [x.hi k] else [])
def atL (l : List Bx) (lo hi : Int) (k : Int) : List Int := lo :: hi :: l.flatMap (inner lo hi k)
def pairsL : List Int → List (Int × Int)
 | a :: b :: r => (a, b) :: pairsL (b :: r)
 | _ => []
def partsL (l : List Bx) (b : Bx) (k : Int) : List (Int × Int) :=
 if b.lo k = b.hi k then [(b.lo k, b.hi k)] else pairsL (Lib.compact (sorted (atL l (b.lo k) (b.hi k) k)))
def pairCells (l : List (Int × Int)) : List Value := l.flatMap fun p => [.int .i64 p.1, .int .i64 p.2]

theorem parts_eq (v : Value) (b : Bx) (k : Int) (hk : 0 ≤ k ∧ k ≤ 2) (w : World) (h : b.lo k = b.hi k) :
  Calls Tryz.prog 270 #[v, (.agg #[.int .i64 b.lx, .int .i64 b.ly, .int .i64 b.lz, .int .i64 b.hx, .int .i64 b.hy, .int .i64 b.hz]), .int .i64 k] w (RetOwn w 324 2 1 (pairCells [(b.lo k, b.hi k)])) := by
 have hb : (b.lo k == b.hi k) = true := by simp [h]
 have H := hd0 h
 clear h
 go_enter Tryz.func270, Tryz.ntmps270
 go_wp2_with fail
 go_at_call 70; refine (ends_c b k hk _).mono ?_; rintro e w' ⟨rfl, x, rfl⟩
 go_wp2
 go_ret
 refine ⟨_, rfl, ?_, ext_of gro⟩
 exact own_lit _ _ _ _ _ (by simp [size_ext]) (by simp [size_ext]; omega) (by decide) rfl rfl

theorem info_int : (Tryz.prog.info? 3).map (fun i => (i.zero, i.size, i.bytes)) = some (some (.int .i64 0), 1, 8) := by kernel_rfl

theorem Boxes.shape {w : World} {v : Value} {l : List Bx} (h : Boxes w v l) : ∃ a cap, v = .slice a l.length cap ∧ l.length ≤ cap ∧ cap ≤ 9223372036854775807 ∧
  ∀ i (h : i < l.length), ∃ b off, a = some ⟨b, off, none⟩ ∧ BoxAt w b (off + i * 6) l[i] := h

theorem atL_take (l : List Bx) (lo hi k : Int) (j : Nat) (h : j < l.length) : atL (l.take (j + 1)) lo hi k = atL (l.take j) lo hi k ++ inner lo hi k l[j] := by
 unfold atL
 rw [List.take_succ_eq_append_getElem h, List.flatMap_append]
 simp
theorem inner_length (lo hi k : Int) (x : Bx) : (inner lo hi k x).length ≤ 2 := by
 unfold inner; split <;> split <;> simp
theorem atL_length (l : List Bx) (lo hi k : Int) : (atL l lo hi k).length ≤ 2 + 2 * l.length := by
 unfold atL
 have : (l.flatMap (inner lo hi k)).length ≤ 2 * l.length := by
  induction l with
  | nil => simp
  | cons a l ih => have := inner_length lo hi k a; simp only [List.flatMap_cons, List.length_append, List.length_cons]; omega
 simp only [List.length_cons]; omega

def innerTo (lo hi : Int) (k : Int) (x : Bx) (q : Nat) : List Int := if q = 0 then [] else if q = 1 then (if lo < x.lo k ∧ x.lo k < hi then [x.lo k] else []) else inner lo hi k x
theorem innerTo_length (lo hi k : Int) (x : Bx) (q : Nat) : (innerTo lo hi k x q).length ≤ 2 := by
 unfold innerTo; have := inner_length lo hi k x; split <;> (try split) <;> (try split) <;> simp_all

theorem pairsL_snoc (C : List Int) (q : Nat) (h1 : 1 ≤ q) (h2 : q < C.length) : pairsL (C.take (q + 1)) = pairsL (C.take q) ++ [(C[q - 1]'(by omega), C[q])] := by
 induction C generalizing q with
 | nil => simp at h2
 | cons a C ih =>
   obtain ⟨p, rfl⟩ : ∃ p, q = p + 1 := ⟨q - 1, by omega⟩
   match C, p, h2 with
   | [], p, h2 => simp at h2
   | b :: r, 0, _ => simp [pairsL]
   | b :: r, p + 1, h2 =>
     have := ih (p + 1) (by omega) (by simpa using h2)
     simp only [List.take_succ_cons, pairsL] at this ⊢
     rw [this]
     simp
theorem pairsL_one (C : List Int) (q : Nat) (h : q ≤ 1) : pairsL (C.take q) = [] := by
 match q, C with
 | 0, _ => simp [pairsL]
 | 1, [] => simp [pairsL]
 | 1, a :: r => simp [pairsL]
 | q + 2, _ => omega
theorem pairsL_length (C : List Int) : (pairsL C).length ≤ C.length := by
 induction C with
 | nil => simp [pairsL]
 | cons a C ih => cases C with
   | nil => simp [pairsL]
   | cons b r => simp only [pairsL, List.length_cons] at ih ⊢; omega
theorem info_pair : (Tryz.prog.info? 324).map (fun i => (i.zero, i.size, i.bytes)) = some (some (.agg #[.int .i64 0, .int .i64 0]), 2, 16) := by kernel_rfl

set_option maxRecDepth 100000 in
theorem parts_ne (l : List Bx) (v : Value) (b : Bx) (k : Int) (hk : 0 ≤ k ∧ k ≤ 2) (w : World) (hl : Boxes w v l) (hlen : l.length ≤ 1000) (h : b.lo k ≠ b.hi k) :
  Calls Tryz.prog 270 #[v, (.agg #[.int .i64 b.lx, .int .i64 b.ly, .int .i64 b.lz, .int .i64 b.hx, .int .i64 b.hy, .int .i64 b.hz]), .int .i64 k] w (RetOwn w 324 2 (pairsL (Lib.compact (sorted (atL l (b.lo k) (b.hi k) k)))).length (pairCells (pairsL (Lib.compact (sorted (atL l (b.lo k) (b.hi k) k)))))) := by
 have hb : (b.lo k == b.hi k) = false := by simp [h]
 clear h
 obtain ⟨a, cap, rfl, hcap, hcap2, hcell⟩ := hl.shape
 clear hl
 have HC := hd0 hcell
 clear hcell
 go_enter Tryz.func270, Tryz.ntmps270
 go_wp2_with fail
 go_at_call 70; refine (ends_c b k hk _).mono ?_; rintro e w' ⟨rfl, x, rfl⟩
 go_wp2_with fail
 go_loopw [36, 9] (fun i v9 wr => ∃ j : Nat, j ≤ l.length ∧ i = .int .i64 j ∧ (∃ x, wr = ext w x) ∧ wr.ownsRow w.heap.size 3 1 v9 (atL (l.take j) (b.lo k) (b.hi k) k).length ((atL (l.take j) (b.lo k) (b.hi k) k).map (Value.int .i64))) (fun i _ _ => l.length - (intOf i).toNat)
 case atStart =>
  refine ⟨0, by omega, rfl, ext_of gro, ?_⟩
  exact own_lit _ _ _ _ _ (by simp [size_ext]) (by simp [size_ext]; omega) (by decide) rfl rfl
 case round =>
  obtain ⟨j, hj, rfl, ⟨y, rfl⟩, hown⟩ := hrel
  by_cases hlt : j < l.length
  ·obtain ⟨b', off, rfl, c0, c1, c2, c3, c4, c5⟩ := HC.out j hlt
   have hal := atL_length (l.take j) (b.lo k) (b.hi k) k
   have htl : (l.take j).length ≤ j := by simp; omega
   have HAT := hd0 (atL_take l (b.lo k) (b.hi k) k j hlt)
   go_wp2_with fail
   go_at_call 70; refine (ends_c l[j] k hk _).mono ?_; rintro e w' ⟨rfl, z, rfl⟩
   go_wp2_with fail
   have hob : u9.ownBlock ≠ some (w.heap.size + y.heap.size + 1 + z.heap.size) := fun e => by have := (hown.lt _ e).2; rw [size_ext] at this; omega
   go_loopw [50, 9] (fun i v9 wr => ∃ q : Nat, q ≤ 2 ∧ i = .int .i64 q ∧ (∃ x, wr = ext w x) ∧ wr.ownsRow w.heap.size 3 1 v9 (atL (l.take j) (b.lo k) (b.hi k) k ++ innerTo (b.lo k) (b.hi k) k l[j] q).length ((atL (l.take j) (b.lo k) (b.hi k) k ++ innerTo (b.lo k) (b.hi k) k l[j] q).map (Value.int .i64)) ∧ (q = 0 → v9.ownBlock ≠ some (w.heap.size + y.heap.size + 1 + z.heap.size) ∧ wr.cell? ⟨w.heap.size + y.heap.size + 1 + z.heap.size, 0, none⟩ = some (.int .i64 (l[j].lo k))) ∧ (q ≤ 1 → wr.cell? ⟨w.heap.size + y.heap.size + 1 + z.heap.size, 1, none⟩ = some (.int .i64 (l[j].hi k)))) (fun i _ _ => 2 - (intOf i).toNat)
   case atStart =>
    refine ⟨0, by omega, rfl, ext_of gro, ?_, fun _ => ⟨hob, by simp [go_sem]⟩, fun _ => by simp [go_sem]⟩
    have := (own_ext (hown.alloc (.cells #[.int .i64 l[j].lx, .int .i64 l[j].ly, .int .i64 l[j].lz, .int .i64 l[j].hx, .int .i64 l[j].hy, .int .i64 l[j].hz] 40)) z).alloc (.cells #[.int .i64 (l[j].lo k), .int .i64 (l[j].hi k)] 3)
    simpa [innerTo] using this
   case round =>
    obtain ⟨q, hq, rfl, ⟨x, rfl⟩, hown2, d0, d1⟩ := hrel
    have hil := innerTo_length (b.lo k) (b.hi k) k l[j] q
    clear hob hown
    clear c0 c1 c2 c3 c4 c5
    by_cases hq0 : q = 0
    ·subst hq0
     have hob := (d0 rfl).1
     have e0 := (d0 rfl).2
     have e1 := d1 (by omega)
     clear d0 d1
     by_cases i1 : b.lo k < l[j].lo k ∧ l[j].lo k < b.hi k
     ·have HI := hd0 i1
      obtain ⟨i1, i2⟩ := i1
      have HE1 := hd0 e1
      have HOB := hd0 hob
      clear e1 hob
      go_wp2_with (at_builtin; refine app_own rfl _ _ 48 rfl 3 (.int .i64 0) 1 8 Tryz.underlying48 info_int rfl (by decide) w _ _ _ _ rfl (hown2.alloc _) _ 1 1 [.int .i64 (l[j].lo k)] rfl rfl (cells_new ?_ _ _ _ rfl) (by simp [Value.oneCell']) ?_ (by decide) ?_ ?_; (simp [size_ext]); (rw [List.length_append]; omega); (repeat (first | exact grow_refl _ | refine grow_ext _ ?_ | refine grow_alloc _ ?_ | refine grow_drew ?_)); intro v' x' hown3 hgrow)
      go_roundw
      case rel => exact ⟨1, by omega, rfl, ⟨_, rfl⟩, by simpa [innerTo, HI.out] using hown3, fun h => by omega, fun _ => hgrow.cell (by simp [go_sem, HE1.out]) (fun e => HOB.out e.symm)⟩
      case measure => simp [intOf]
     ·have HI := hd0 i1
      have HE1 := hd0 e1
      clear e1 hob
      go_wp2
      all_goals
       go_roundw
       case rel => exact ⟨1, by omega, rfl, ⟨_, rfl⟩, by simpa [innerTo, HI.out] using hown2, fun h => by omega, fun _ => HE1.out⟩
       case measure => simp [intOf]
    ·by_cases hq1 : q = 1
     ·subst hq1
      have e1 := d1 (by omega)
      clear d0 d1 hq0
      by_cases i1 : b.lo k < l[j].hi k ∧ l[j].hi k < b.hi k
      ·have HI := hd0 i1
       obtain ⟨i1, i2⟩ := i1
       go_wp2_with (at_builtin; refine app_own rfl _ _ 48 rfl 3 (.int .i64 0) 1 8 Tryz.underlying48 info_int rfl (by decide) w _ _ _ _ rfl (hown2.alloc _) _ 1 1 [.int .i64 (l[j].hi k)] rfl rfl (cells_new ?_ _ _ _ rfl) (by simp [Value.oneCell']) ?_ (by decide) ?_ ?_; (simp [size_ext]); (rw [List.length_append]; omega); (repeat (first | exact grow_refl _ | refine grow_ext _ ?_ | refine grow_alloc _ ?_ | refine grow_drew ?_)); intro v' x' hown3 hgrow)
       go_roundw
       case rel => exact ⟨2, by omega, rfl, ⟨_, rfl⟩, by simpa [innerTo, inner, HI.out, Nat.add_assoc] using hown3, fun h => by omega, fun h => by omega⟩
       case measure => simp [intOf]
      ·have HI := hd0 i1
       go_wp2
       all_goals
        go_roundw
        case rel => exact ⟨2, by omega, rfl, ⟨_, rfl⟩, by simpa [innerTo, inner, HI.out] using hown2, fun h => by omega, fun h => by omega⟩
        case measure => simp [intOf]
     ·obtain rfl : q = 2 := by omega
      clear d0 d1 hq0 hq1
      go_wp2
      go_roundw
      case rel => exact ⟨j + 1, by omega, by go_num, ⟨_, rfl⟩, by rw [HAT.out]; simpa [innerTo] using hown2⟩
      case measure => simp [intOf]; omega
  ·obtain rfl : j = l.length := by omega
   rw [List.take_length] at hown
   have hal := atL_length l (b.lo k) (b.hi k) k
   have hml := length_sorted (atL l (b.lo k) (b.hi k) k)
   have hcl := Lib.compact_length_le (sorted (atL l (b.lo k) (b.hi k) k))
   have HML := hd0 hml
   have hml2 : (sorted (atL l (b.lo k) (b.hi k) k)).length ≤ 2 + 2 * l.length := by omega
   clear hml hal
   go_wp2_with fail
   go_at_call 26
   refine (sort_own u9 (atL l (b.lo k) (b.hi k) k) _ hown (by rw [← HML.out]; omega)).mono ?_
   rintro e w' ⟨rfl, hown2, hg2⟩
   obtain ⟨y2, rfl⟩ := ext_grown hg2 (own_row hown)
   clear hown hg2
   go_wp2_with fail
   go_at_call 75
   refine (compact_own u9 (sorted (atL l (b.lo k) (b.hi k) k)) _ hown2 (by omega)).mono ?_
   rintro e w' ⟨v2, rfl, hown3, hg3, _⟩
   obtain ⟨y3, rfl⟩ := ext_grown hg3 (own_row hown2)
   clear hown2 hg3
   generalize hCe : Lib.compact (sorted (atL l (b.lo k) (b.hi k) k)) = C at hown3 hcl
   have HCE := hd0 hCe
   clear hCe
   have hC : C.length ≤ 2002 := by omega
   obtain ⟨a2, cap2, rfl, hs1, hs2, hs3⟩ := own_shape hown3
   have HS := hd0 hs3
   clear hs3 hcl hml2
   unfold maxLen at hs2
   go_wp2_with fail
   go_loopw [16, 17] (fun v16 i wr => ∃ q : Nat, 1 ≤ q ∧ (q ≤ C.length ∨ q = 1) ∧ i = .int .i64 q ∧ (∃ x, wr = ext w x) ∧ wr.ownsRow w.heap.size 3 1 (.slice a2 C.length cap2) C.length (C.map (Value.int .i64)) ∧ wr.ownsRow w.heap.size 324 2 v16 (pairsL (C.take q)).length (pairCells (pairsL (C.take q)))) (fun _ i _ => C.length + 1 - (intOf i).toNat)
   case atStart => exact ⟨1, by omega, by omega, rfl, ⟨_, rfl⟩, hown3, by rw [pairsL_one C 1 (by omega)]; exact World.ownsRow_nil _ _ _ _⟩
   case round =>
    obtain ⟨q, hq1, hq2, rfl, ⟨x, rfl⟩, hA, hO⟩ := hrel
    clear hown3 HS
    by_cases hq : q < C.length
    ·obtain ⟨a3, cap3, he, _, _, hs3⟩ := own_shape hA
     cases he
     obtain ⟨g, rfl, hg, hcell⟩ := hs3 (by omega)
     have hqm : q - 1 < C.length := by omega
     have k1 := hcell (q - 1) (by omega)
     have k2 := hcell q (by omega)
     rw [List.getElem?_map, List.getElem?_eq_getElem (by omega), Option.map_some] at k1 k2
     clear hcell
     have HK1 := hd0 k1
     have HK2 := hd0 k2
     clear k1 k2
     go_wp2_with fail
     have k1 := HK1.out
     have k2 := HK2.out
     have p1 : IntKind.i64.wrap ((q : Int) - 1) = (q : Int) - 1 := IntWalk.i64_in _ (by omega)
     have p2 : (0 : Int) ≤ (q : Int) - 1 := by omega
     have p3 : (q : Int) - 1 < (C.length : Int) := by omega
     have p4 : ((q : Int) - 1).toNat = q - 1 := by omega
     have p5 : (0 : Int) ≤ (q : Int) := by omega
     have p6 : (q : Int) < (C.length : Int) := by omega
     have p7 : (1 : Int) ≤ (q : Int) := by omega
     go_region_law (refine step_app_own rfl _ _ 322 rfl 324 (.agg #[.int .i64 0, .int .i64 0]) 2 16 Tryz.underlying322 info_pair rfl (by decide) w _ _ _ _ rfl (own_drew (hO.alloc _)) _ 1 1 [.int .i64 (C[q - 1]'hqm), .int .i64 (C[q]'hq)] rfl rfl (cells_new_drew ?_ _ _ _ rfl) (by simp [Value.oneCell']) ?_ (by decide) ?_ ?_; (simp [size_ext]); (have := pairsL_length (C.take q); have := List.length_take_le q C; omega); (repeat (first | exact grow_refl _ | refine grow_ext _ ?_ | refine grow_alloc _ ?_ | refine grow_drew ?_)); intro v' x' hown3 hgrow)
     all_goals
      have hA2 := (own_drew (hA.alloc (.cells #[.int .i64 (C[q - 1]'hqm), .int .i64 (C[q]'hq)] 324))).kept hgrow (own_ne hA hO (by decide))
      have HP := hd0 (pairsL_snoc C q hq1 hq)
      clear k1 k2 p1 p2 p3 p4 p5 p6 p7 hO hgrow
      go_wp2
      go_roundw
      case rel => exact ⟨q + 1, by omega, by omega, by go_num, ⟨_, rfl⟩, hA2, by rw [HP.out]; simpa [pairCells] using hown3⟩
      case measure => simp [intOf]; omega
    ·rw [List.take_of_length_le (by omega)] at hO
     have HO := hd0 hO
     clear hO
     go_wp2
     go_ret
     rw [HCE.out]
     exact ⟨_, rfl, HO.out, ⟨_, rfl⟩⟩

theorem parts_c (l : List Bx) (v : Value) (b : Bx) (k : Int) (hk : 0 ≤ k ∧ k ≤ 2) (w : World) (hl : Boxes w v l) (hlen : l.length ≤ 1000) :
  Calls Tryz.prog 270 #[v, (.agg #[.int .i64 b.lx, .int .i64 b.ly, .int .i64 b.lz, .int .i64 b.hx, .int .i64 b.hy, .int .i64 b.hz]), .int .i64 k] w (RetOwn w 324 2 (partsL l b k).length (pairCells (partsL l b k))) := by
 unfold partsL
 by_cases h : b.lo k = b.hi k
 ·rw [if_pos h]; exact parts_eq v b k hk w h
 ·rw [if_neg h]; exact parts_ne l v b k hk w hl hlen h

set_option maxHeartbeats 2000000

theorem Boxes.below {w w' : World} {v : Value} {l : List Bx} (h : Boxes w v l) (hb : Below w.heap.size w w') : Boxes w' v l := by
 obtain ⟨x, rfl⟩ := ext_of hb; exact h.ext x

def Pairs (w : World) (v : Value) (l : List (Int × Int)) : Prop :=
 ∃ a cap, v = .slice a l.length cap ∧ l.length ≤ cap ∧ cap ≤ 9223372036854775807 ∧
  ∀ i (h : i < l.length), ∃ g, a = some ⟨g, 0, none⟩ ∧ w.cell? ⟨g, i * 2, none⟩ = some (.int .i64 l[i].1) ∧ w.cell? ⟨g, i * 2 + 1, none⟩ = some (.int .i64 l[i].2)
theorem Pairs.ext {w : World} {v : Value} {l : List (Int × Int)} (h : Pairs w v l) (y : World) : Pairs (ext w y) v l := by
 obtain ⟨a, cap, h1, h2, h3, h4⟩ := h
 exact ⟨a, cap, h1, h2, h3, fun i hi => let ⟨g, e, c1, c2⟩ := h4 i hi; ⟨g, e, cell_ext_some c1 y, cell_ext_some c2 y⟩⟩
theorem Pairs.below {w w' : World} {v : Value} {l : List (Int × Int)} (h : Pairs w v l) (hb : Below w.heap.size w w') : Pairs w' v l := by
 obtain ⟨x, rfl⟩ := ext_of hb; exact h.ext x
theorem pairCells_get (l : List (Int × Int)) (i : Nat) (h : i < l.length) : (pairCells l)[i * 2]? = some (.int .i64 l[i].1) ∧ (pairCells l)[i * 2 + 1]? = some (.int .i64 l[i].2) := by
 induction l generalizing i with
 | nil => simp at h
 | cons a l ih =>
   cases i with
   | zero => simp [pairCells]
   | succ i =>
     have := ih i (by simpa using h)
     have e1 : (i + 1) * 2 = i * 2 + 1 + 1 := by omega
     simp only [pairCells, List.flatMap_cons, List.cons_append, List.nil_append, List.getElem_cons_succ] at this ⊢
     rw [e1, List.getElem?_cons_succ, List.getElem?_cons_succ, show i * 2 + 1 + 1 + 1 = (i * 2 + 1) + 1 + 1 from rfl, List.getElem?_cons_succ, List.getElem?_cons_succ]
     exact this
theorem Pairs.of_own {w : World} {base : Nat} {e : TypeId} {v : Value} {l : List (Int × Int)} (h : w.ownsRow base e 2 v l.length (pairCells l)) : Pairs w v l := by
 obtain ⟨a, cap, rfl, h1, h2, h3⟩ := own_shape h
 unfold maxLen at h2
 refine ⟨a, cap, rfl, h1, by omega, fun i hi => ?_⟩
 obtain ⟨g, rfl, _, hc⟩ := h3 (by omega)
 obtain ⟨p1, p2⟩ := pairCells_get l i hi
 exact ⟨g, rfl, by rw [hc _ (by omega), p1], by rw [hc _ (by omega), p2]⟩

def cellX (x y z : Int × Int) : Bx := ⟨x.1, y.1, z.1, x.2, y.2, z.2⟩
def okZ (l : List Bx) (x y z : Int × Int) : Bool := l.any fun a => containsB a (cellX x y z)
def okY (l : List Bx) (b : Bx) (x y : Int × Int) : Bool := (partsL l b 2).all (okZ l x y)
def okX (l : List Bx) (b : Bx) (x : Int × Int) : Bool := (partsL l b 1).all (okY l b x)
def coversB (l : List Bx) (b : Bx) : Bool := (partsL l b 0).all (okX l b)

theorem all_false_of {α : Type} {p : α → Bool} {l : List α} {i : Nat} (h : i < l.length) (hp : p l[i] = false) : l.all p = false := by
 rw [List.all_eq_false]; exact ⟨l[i], List.getElem_mem h, by simp [hp]⟩
theorem all_take_succ {α : Type} {p : α → Bool} {l : List α} {i : Nat} (h : i < l.length) (hp : p l[i] = true) (ht : (l.take i).all p = true) : (l.take (i + 1)).all p = true := by
 rw [List.take_succ_eq_append_getElem h, List.all_append, ht]; simp [hp]

theorem covers1_c (a c : Bx) (blk : Nat) (w : World) (h : BoxAt w blk 0 c) :
  Calls Tryz.prog 271 #[(.agg #[.int .i64 a.lx, .int .i64 a.ly, .int .i64 a.lz, .int .i64 a.hx, .int .i64 a.hy, .int .i64 a.hz]), .pointer (some ⟨blk, 0, none⟩)] w (Ret w (.bool (containsB a c))) := by
 obtain ⟨c0, c1, c2, c3, c4, c5⟩ := h
 go_enter Tryz.func271, Tryz.ntmps271
 go_wp2_with fail
 go_at_call 251; refine (contains_c a c _).mono ?_; rintro e w' ⟨rfl, x, rfl⟩
 go_wp2
 go_ret
 exact Ret.of gro
theorem enters_covers1 : Enters 271 := enters_of Tryz.func271 (by decide) (by simp [Tryz.f271])

set_option maxRecDepth 100000 in
theorem Covers_ok (l : List Bx) (v : Value) (b : Bx) (w : World) (hl : Boxes w v l) (hlen : l.length ≤ 40) (h1 : l.all validB = true) (h2 : validB b = true) :
  Calls Tryz.prog 269 #[v, (.agg #[.int .i64 b.lx, .int .i64 b.ly, .int .i64 b.lz, .int .i64 b.hx, .int .i64 b.hy, .int .i64 b.hz])] w (Ret w (.tuple #[.bool (coversB l b), .int .i64 0])) := by
 obtain ⟨a, cap, rfl, hcap, hcap2, _⟩ := hl.shape
 have h40 : decide ((40 : Int) < (l.length : Int)) = false := by simp; omega
 go_enter Tryz.func269, Tryz.ntmps269
 go_wp2_with fail
 refine (all_c l _ _ (hl.below gro)).mono ?_; rintro e w' ⟨rfl, x, rfl⟩
 rw [h1]
 go_wp2_with fail
 go_at_call 29; refine (valid_v b _ h2 _).mono ?_; rintro e w' ⟨rfl, x, rfl⟩
 go_wp2_with fail
 go_at_call 270; refine (parts_c l _ b 0 (by omega) _ (hl.below gro) (by omega)).mono ?_; rintro e w' ⟨v28, rfl, hown, y, rfl⟩
 have HP0 := Pairs.of_own hown
 clear hown
 have HP := HP0
 obtain ⟨a28, cap28, rfl, hc1, hc2, _⟩ := HP0
 go_wp2_with fail
 go_loopw [30] (fun i wr => ∃ j : Nat, j ≤ (partsL l b 0).length ∧ i = .int .i64 j ∧ (∃ x, wr = ext w x) ∧ BoxAt wr w.heap.size 0 b ∧ Pairs wr (.slice a28 (partsL l b 0).length cap28) (partsL l b 0) ∧ ((partsL l b 0).take j).all (okX l b) = true) (fun i _ => (partsL l b 0).length - (intOf i).toNat)
 case atStart => exact ⟨0, by omega, rfl, ext_of gro, by simp [BoxAt, go_sem], HP, by simp⟩
 case round =>
  obtain ⟨j, hj, rfl, ⟨x1, rfl⟩, ⟨c0, c1, c2, c3, c4, c5⟩, hP, hall⟩ := hrel
  have HAL := hd0 hall
  clear hall HP
  obtain ⟨a', cap', he, _, _, hcell⟩ := id hP
  cases he
  by_cases hlt : j < (partsL l b 0).length
  ·obtain ⟨g, rfl, d0, d1⟩ := hcell j hlt
   have HC := hd0 hcell
   clear hcell
   go_wp2_with fail
   go_at_call 270; refine (parts_c l _ b 1 (by omega) _ (hl.below gro) (by omega)).mono ?_; rintro e w' ⟨v36, rfl, hown, y, rfl⟩
   have HP1 := Pairs.of_own hown
   clear hown
   have HQ := HP1
   obtain ⟨a36, cap36, rfl, hc3, hc4, _⟩ := HP1
   go_wp2_with fail
   go_loopw [38] (fun i wr => ∃ j2 : Nat, j2 ≤ (partsL l b 1).length ∧ i = .int .i64 j2 ∧ (∃ z, wr = ext (ext w x1) z) ∧ wr.cell? ⟨w.heap.size + x1.heap.size, 0, none⟩ = some (.int .i64 (partsL l b 0)[j].1) ∧ wr.cell? ⟨w.heap.size + x1.heap.size, 1, none⟩ = some (.int .i64 (partsL l b 0)[j].2) ∧ Pairs wr (.slice a36 (partsL l b 1).length cap36) (partsL l b 1) ∧ ((partsL l b 1).take j2).all (okY l b (partsL l b 0)[j]) = true) (fun i _ => (partsL l b 1).length - (intOf i).toNat)
   case atStart => exact ⟨0, by omega, rfl, ext_of gro, by simp [go_sem], by simp [go_sem], HQ, by simp⟩
   case round =>
    obtain ⟨j2, hj2, rfl, ⟨x2, rfl⟩, e0, e1, hP2, hall2⟩ := hrel
    have HAL2 := hd0 hall2
    clear hall2 HQ
    obtain ⟨a', cap', he, _, _, hcell2⟩ := id hP2
    cases he
    by_cases hlt2 : j2 < (partsL l b 1).length
    ·obtain ⟨g2, rfl, d2, d3⟩ := hcell2 j2 hlt2
     clear hcell2 d0 d1
     go_wp2_with fail
     go_at_call 270; refine (parts_c l _ b 2 (by omega) _ (hl.below gro) (by omega)).mono ?_; rintro e w' ⟨v44, rfl, hown, y, rfl⟩
     have HP2 := Pairs.of_own hown
     clear hown
     have HR := HP2
     obtain ⟨a44, cap44, rfl, hc5, hc6, _⟩ := HP2
     go_wp2_with fail
     go_loopw [46] (fun i wr => ∃ j3 : Nat, j3 ≤ (partsL l b 2).length ∧ i = .int .i64 j3 ∧ (∃ z, wr = ext (ext (ext w x1) x2) z) ∧ wr.cell? ⟨w.heap.size + x1.heap.size + x2.heap.size, 0, none⟩ = some (.int .i64 (partsL l b 1)[j2].1) ∧ wr.cell? ⟨w.heap.size + x1.heap.size + x2.heap.size, 1, none⟩ = some (.int .i64 (partsL l b 1)[j2].2) ∧ Pairs wr (.slice a44 (partsL l b 2).length cap44) (partsL l b 2) ∧ ((partsL l b 2).take j3).all (okZ l (partsL l b 0)[j] (partsL l b 1)[j2]) = true) (fun i _ => (partsL l b 2).length - (intOf i).toNat)
     case atStart => exact ⟨0, by omega, rfl, ext_of gro, by simp [go_sem], by simp [go_sem], HR, by simp⟩
     case round =>
      obtain ⟨j3, hj3, rfl, ⟨x3, rfl⟩, e2, e3, hP3, hall3⟩ := hrel
      have HAL3 := hd0 hall3
      clear hall3 HR
      obtain ⟨a', cap', he, _, _, hcell3⟩ := id hP3
      cases he
      by_cases hlt3 : j3 < (partsL l b 2).length
      ·obtain ⟨g3, rfl, d4, d5⟩ := hcell3 j3 hlt3
       clear hcell3 d2 d3
       go_wp2_with fail
       go_at_call 219
       refine Calls.mono (containsFunc_c 271 enters_covers1 _ (fun a => containsB a (cellX (partsL l b 0)[j] (partsL l b 1)[j2] (partsL l b 2)[j3])) l _ _ (hl.below gro) ?_) ?_
       ·intro a z _
        simp only [List.append_toArray, List.cons_append, List.nil_append]
        exact covers1_c a (cellX (partsL l b 0)[j] (partsL l b 1)[j2] (partsL l b 2)[j3]) _ _ (BoxAt.ext (by simp [BoxAt, go_sem, cellX]) z)
       rintro e w' ⟨rfl, y3, rfl⟩
       cases hz : okZ l (partsL l b 0)[j] (partsL l b 1)[j2] (partsL l b 2)[j3]
       ·have hcov : coversB l b = false := all_false_of hlt (all_false_of hlt2 (all_false_of hlt3 hz))
        have hz2 : (l.any fun a => containsB a (cellX (partsL l b 0)[j] (partsL l b 1)[j2] (partsL l b 2)[j3])) = false := hz
        have HCOV := hd0 hcov
        clear hcov hz
        go_wp2
        go_ret2
        rw [HCOV.out]
        exact Ret.of gro
       ·have hz2 : (l.any fun a => containsB a (cellX (partsL l b 0)[j] (partsL l b 1)[j2] (partsL l b 2)[j3])) = true := hz
        have hal := hd0 (all_take_succ hlt3 hz HAL3.out)
        clear hz
        go_wp2
        go_roundw
        case rel => exact ⟨j3 + 1, by omega, by go_num, ext_of gro, by simp [go_sem, e2], by simp [go_sem, e3], hP3.below gro, hal.out⟩
        case measure => simp [intOf]; omega
      ·have hy : okY l b (partsL l b 0)[j] (partsL l b 1)[j2] = true := by
        have := HAL3.out
        rwa [List.take_of_length_le (by omega)] at this
       have hal := hd0 (all_take_succ hlt2 hy HAL2.out)
       clear hy hcell3 d2 d3
       go_wp2
       go_roundw
       case rel => exact ⟨j2 + 1, by omega, by go_num, ext_of gro, by simp [go_sem, e0], by simp [go_sem, e1], hP2.below gro, hal.out⟩
       case measure => simp [intOf]; omega
    ·have hy : okX l b (partsL l b 0)[j] = true := by
      have := HAL2.out
      rwa [List.take_of_length_le (by omega)] at this
     have hal := hd0 (all_take_succ hlt hy HAL.out)
     clear hy hcell2 d0 d1
     go_wp2
     go_roundw
     case rel => exact ⟨j + 1, by omega, by go_num, ext_of gro, BoxAt.ext ⟨c0, c1, c2, c3, c4, c5⟩ _, hP.below gro, hal.out⟩
     case measure => simp [intOf]; omega
  ·have hy : coversB l b = true := by
    have := HAL.out
    rwa [List.take_of_length_le (by omega)] at this
   have HY := hd0 hy
   clear hy hcell
   go_wp2
   go_ret2
   rw [HY.out]
   exact Ret.of gro


theorem sorted_pairwise (zs : List Int) : (sorted zs).Pairwise (· ≤ ·) := by
 unfold sorted
 have := List.pairwise_mergeSort (le := fun x y : Int => decide (x ≤ y)) (by intro a b c; simp; omega) (by intro a b; simp; omega) zs
 simpa using this
theorem mem_sorted {zs : List Int} {x : Int} : x ∈ sorted zs ↔ x ∈ zs := List.mem_mergeSort

theorem compactUpTo_spec (d : Array Int) (hs : ∀ i j, i ≤ j → j < d.size → d[i]! ≤ d[j]!) (m : Nat) (hm : m ≤ d.size) :
  (∀ x, x ∈ Lib.compactUpTo d m ↔ ∃ j, j < m ∧ d[j]! = x) ∧ (Lib.compactUpTo d m).Pairwise (· < ·) := by
 induction m with
 | zero => simp [Lib.compactUpTo]
 | succ m ih =>
   obtain ⟨h1, h2⟩ := ih (by omega)
   rw [Lib.compactUpTo_succ]
   by_cases h0 : m = 0
   ·subst h0
    have hk : Lib.keeps d 0 = true := Lib.keeps_lt_one d 0 (by omega)
    rw [if_pos hk]
    refine ⟨fun x => ?_, by simp [Lib.compactUpTo]⟩
    simp only [Lib.compactUpTo, List.range_zero, List.filter_nil, List.map_nil, List.nil_append, List.mem_singleton]
    exact ⟨fun h => ⟨0, by omega, h.symm⟩, fun ⟨j, hj, h⟩ => by rw [← h, show j = 0 by omega]⟩
   ·by_cases he : d[m]! = d[m - 1]!
    ·rw [if_neg (by rw [Lib.keeps_neg (by omega) he]; simp), List.append_nil]
     refine ⟨fun x => ?_, h2⟩
     rw [h1]
     constructor
     ·rintro ⟨j, hj, h⟩; exact ⟨j, by omega, h⟩
     ·rintro ⟨j, hj, h⟩
      by_cases hjm : j = m
      ·exact ⟨m - 1, by omega, by rw [← he, ← hjm]; exact h⟩
      ·exact ⟨j, by omega, h⟩
    ·rw [if_pos (Lib.keeps_pos he)]
     refine ⟨fun x => ?_, ?_⟩
     ·rw [List.mem_append, h1, List.mem_singleton]
      constructor
      ·rintro (⟨j, hj, h⟩ | h)
       ·exact ⟨j, by omega, h⟩
       ·exact ⟨m, by omega, h.symm⟩
      ·rintro ⟨j, hj, h⟩
       by_cases hjm : j = m
       ·exact .inr (by rw [← h, hjm])
       ·exact .inl ⟨j, by omega, h⟩
     ·rw [List.pairwise_append]
      refine ⟨h2, by simp, fun x hx y hy => ?_⟩
      obtain ⟨j, hj, rfl⟩ := (h1 x).1 hx
      rw [List.mem_singleton.1 hy]
      have e1 := hs j (m - 1) (by omega) (by omega)
      have e2 := hs (m - 1) m (by omega) (by omega)
      omega

def cutsL (zs : List Int) : List Int := Lib.compact (sorted zs)
theorem cutsL_spec (zs : List Int) : (∀ x, x ∈ cutsL zs ↔ x ∈ zs) ∧ (cutsL zs).Pairwise (· < ·) := by
 unfold cutsL Lib.compact
 have hp := sorted_pairwise zs
 have hs : ∀ i j, i ≤ j → j < (sorted zs).toArray.size → (sorted zs).toArray[i]! ≤ (sorted zs).toArray[j]! := by
  intro i j hij hj
  have hj' : j < (sorted zs).length := by simpa using hj
  rw [getElem!_pos _ i (by simp; omega), getElem!_pos _ j hj]
  simp only [List.getElem_toArray]
  rcases Nat.lt_or_eq_of_le hij with h | h
  ·exact List.pairwise_iff_getElem.1 hp i j (by omega) hj' h
  ·subst h; omega
 obtain ⟨h1, h2⟩ := compactUpTo_spec (sorted zs).toArray hs (sorted zs).length (by simp)
 refine ⟨fun x => ?_, h2⟩
 rw [h1, ← mem_sorted (zs := zs)]
 constructor
 ·rintro ⟨j, hj, rfl⟩
  rw [getElem!_pos _ j (by simpa using hj)]
  simp
 ·intro hx
  obtain ⟨j, hj, rfl⟩ := List.getElem_of_mem hx
  exact ⟨j, hj, by rw [getElem!_pos _ j (by simpa using hj)]; simp⟩

theorem pairs_mem (A : List Int) (hA : A.Pairwise (· < ·)) (p : Int × Int) (hp : p ∈ pairsL A) : p.1 ∈ A ∧ p.2 ∈ A ∧ p.1 < p.2 ∧ ∀ c ∈ A, c ≤ p.1 ∨ p.2 ≤ c := by
 induction A with
 | nil => simp [pairsL] at hp
 | cons a A ih =>
   cases A with
   | nil => simp [pairsL] at hp
   | cons b r =>
     have hA' := hA
     rw [List.pairwise_cons] at hA
     simp only [pairsL, List.mem_cons] at hp
     rcases hp with rfl | hp
     ·have hab := hA.1 b (by simp)
      refine ⟨by simp, by simp, hab, fun c hc => ?_⟩
      rcases List.mem_cons.1 hc with rfl | hc
      ·exact .inl (Int.le_refl _)
      ·rcases List.mem_cons.1 hc with rfl | hc
       ·exact .inr (Int.le_refl _)
       ·have := (List.pairwise_cons.1 hA.2).1 c hc; exact .inr (by simp only; omega)
     ·obtain ⟨h1, h2, h3, h4⟩ := ih hA.2 hp
      refine ⟨List.mem_cons_of_mem _ h1, List.mem_cons_of_mem _ h2, h3, fun c hc => ?_⟩
      rcases List.mem_cons.1 hc with rfl | hc
      ·have := hA.1 p.1 h1; exact .inl (by omega)
      ·exact h4 c hc

theorem pairs_cover (A : List Int) (P : Int) (lo hi : Int) (hlo : lo ∈ A) (hhi : hi ∈ A) (hlt : lo < hi) (h1 : 2 * lo ≤ P) (h2 : P ≤ 2 * hi) (hA : A.Pairwise (· < ·)) : ∃ p ∈ pairsL A, 2 * p.1 ≤ P ∧ P ≤ 2 * p.2 := by
 induction A generalizing lo with
 | nil => simp at hlo
 | cons a A ih =>
   cases A with
   | nil => simp at hlo hhi; omega
   | cons b r =>
     rw [List.pairwise_cons] at hA
     have hab := hA.1 b (by simp)
     by_cases hPb : P ≤ 2 * b
     ·rcases List.mem_cons.1 hlo with rfl | hlo'
      ·exact ⟨(lo, b), by simp [pairsL], h1, hPb⟩
      ·have h3 : b ≤ lo := by
        rcases List.mem_cons.1 hlo' with rfl | h
        ·exact Int.le_refl _
        ·have := (List.pairwise_cons.1 hA.2).1 lo h; omega
       exact ⟨(a, b), by simp [pairsL], by simp only; omega, hPb⟩
     ·have hhi' : hi ∈ b :: r := by
       rcases List.mem_cons.1 hhi with rfl | h
       ·omega
       ·exact h
      obtain ⟨p, hp, h5⟩ := ih b (by simp) hhi' (by
       rcases List.mem_cons.1 hhi' with h | h
       ·omega
       ·exact (List.pairwise_cons.1 hA.2).1 hi h) (by omega) hA.2
      exact ⟨p, by simp only [pairsL]; exact List.mem_cons_of_mem _ hp, h5⟩

theorem mem_inner {lo hi k : Int} {x : Bx} {n : Int} : n ∈ inner lo hi k x ↔ (lo < n ∧ n < hi) ∧ (n = x.lo k ∨ n = x.hi k) := by
 unfold inner
 rw [List.mem_append]
 constructor
 ·rintro (h | h)
  ·split at h
   ·rename_i hc; rw [List.mem_singleton.1 h]; exact ⟨hc, .inl rfl⟩
   ·simp at h
  ·split at h
   ·rename_i hc; rw [List.mem_singleton.1 h]; exact ⟨hc, .inr rfl⟩
   ·simp at h
 ·rintro ⟨hc, rfl | rfl⟩
  ·exact .inl (by rw [if_pos hc]; simp)
  ·exact .inr (by rw [if_pos hc]; simp)
theorem mem_atL {l : List Bx} {lo hi k n : Int} : n ∈ atL l lo hi k ↔ n = lo ∨ n = hi ∨ ∃ x ∈ l, (lo < n ∧ n < hi) ∧ (n = x.lo k ∨ n = x.hi k) := by
 unfold atL
 simp only [List.mem_cons, List.mem_flatMap, mem_inner]

theorem parts_spec {l : List Bx} {b : Bx} {k : Int} (hb : b.lo k ≤ b.hi k) {p : Int × Int} (hp : p ∈ partsL l b k) :
  b.lo k ≤ p.1 ∧ p.1 ≤ p.2 ∧ p.2 ≤ b.hi k ∧ (p.1 = p.2 ∨ ∀ x ∈ l, (x.lo k ≤ p.1 ∨ p.2 ≤ x.lo k) ∧ (x.hi k ≤ p.1 ∨ p.2 ≤ x.hi k)) := by
 unfold partsL at hp
 split at hp
 ·rename_i he
  rw [List.mem_singleton.1 hp]
  exact ⟨Int.le_refl _, hb, Int.le_refl _, .inl he⟩
 ·rename_i he
  obtain ⟨c1, c2⟩ := cutsL_spec (atL l (b.lo k) (b.hi k) k)
  obtain ⟨h1, h2, h3, h4⟩ := pairs_mem _ c2 p hp
  have in1 : ∀ n ∈ cutsL (atL l (b.lo k) (b.hi k) k), b.lo k ≤ n ∧ n ≤ b.hi k := fun n hn => by
   rw [c1, mem_atL] at hn
   rcases hn with rfl | rfl | ⟨x, _, hx, _⟩ <;> omega
  have b1 := in1 _ h1
  have b2 := in1 _ h2
  refine ⟨b1.1, by omega, b2.2, .inr fun x hx => ⟨?_, ?_⟩⟩
  ·by_cases hc : b.lo k < x.lo k ∧ x.lo k < b.hi k
   ·exact h4 _ ((c1 _).2 (mem_atL.2 (.inr (.inr ⟨x, hx, hc, .inl rfl⟩))))
   ·omega
  ·by_cases hc : b.lo k < x.hi k ∧ x.hi k < b.hi k
   ·exact h4 _ ((c1 _).2 (mem_atL.2 (.inr (.inr ⟨x, hx, hc, .inr rfl⟩))))
   ·omega
theorem parts_cover {l : List Bx} {b : Bx} {k : Int} (hb : b.lo k ≤ b.hi k) (P : Int) (h1 : 2 * b.lo k ≤ P) (h2 : P ≤ 2 * b.hi k) : ∃ p ∈ partsL l b k, 2 * p.1 ≤ P ∧ P ≤ 2 * p.2 := by
 unfold partsL
 split
 ·exact ⟨_, List.mem_singleton.2 rfl, h1, h2⟩
 ·rename_i he
  obtain ⟨c1, c2⟩ := cutsL_spec (atL l (b.lo k) (b.hi k) k)
  exact pairs_cover _ P (b.lo k) (b.hi k) ((c1 _).2 (mem_atL.2 (.inl rfl))) ((c1 _).2 (mem_atL.2 (.inr (.inl rfl)))) (by omega) h1 h2 c2

def inB (a : Bx) (P Q R : Int) : Prop := (2 * a.lx ≤ P ∧ P ≤ 2 * a.hx) ∧ (2 * a.ly ≤ Q ∧ Q ≤ 2 * a.hy) ∧ (2 * a.lz ≤ R ∧ R ≤ 2 * a.hz)

theorem lo0 (b : Bx) : b.lo 0 = b.lx := rfl
theorem lo1 (b : Bx) : b.lo 1 = b.ly := rfl
theorem lo2 (b : Bx) : b.lo 2 = b.lz := rfl
theorem hi0 (b : Bx) : b.hi 0 = b.hx := rfl
theorem hi1 (b : Bx) : b.hi 1 = b.hy := rfl
theorem hi2 (b : Bx) : b.hi 2 = b.hz := rfl

theorem mid_axis {p : Int × Int} {lo hi : Int} (h : p.1 = p.2 ∨ ((lo ≤ p.1 ∨ p.2 ≤ lo) ∧ (hi ≤ p.1 ∨ p.2 ≤ hi))) (h1 : 2 * lo ≤ p.1 + p.2) (h2 : p.1 + p.2 ≤ 2 * hi) : lo ≤ p.1 ∧ p.2 ≤ hi := by
 rcases h with h | ⟨h3, h4⟩ <;> omega

theorem covers_iff {l : List Bx} {b : Bx} (h0 : b.lx ≤ b.hx) (h1 : b.ly ≤ b.hy) (h2 : b.lz ≤ b.hz) : coversB l b = true ↔ ∀ P Q R, inB b P Q R → ∃ a ∈ l, inB a P Q R := by
 constructor
 ·intro h P Q R ⟨hP, hQ, hR⟩
  obtain ⟨x, hx, hx1⟩ := parts_cover (l := l) (b := b) (k := 0) h0 P hP.1 hP.2
  obtain ⟨y, hy, hy1⟩ := parts_cover (l := l) (b := b) (k := 1) h1 Q hQ.1 hQ.2
  obtain ⟨z, hz, hz1⟩ := parts_cover (l := l) (b := b) (k := 2) h2 R hR.1 hR.2
  have c1 := List.all_eq_true.1 h x hx
  have c2 := List.all_eq_true.1 c1 y hy
  have c3 := List.all_eq_true.1 c2 z hz
  obtain ⟨a, ha, hc⟩ := List.any_eq_true.1 c3
  have hc := contains_iff.1 hc
  simp only [cellX] at hc
  exact ⟨a, ha, by unfold inB; omega⟩
 ·intro h
  refine List.all_eq_true.2 fun x hx => List.all_eq_true.2 fun y hy => List.all_eq_true.2 fun z hz => ?_
  obtain ⟨x1, x2, x3, x4⟩ := parts_spec (k := 0) h0 hx
  obtain ⟨y1, y2, y3, y4⟩ := parts_spec (k := 1) h1 hy
  obtain ⟨z1, z2, z3, z4⟩ := parts_spec (k := 2) h2 hz
  simp only [lo0, lo1, lo2, hi0, hi1, hi2] at x1 x3 x4 y1 y3 y4 z1 z3 z4
  obtain ⟨a, ha, hP, hQ, hR⟩ := h (x.1 + x.2) (y.1 + y.2) (z.1 + z.2) (by unfold inB; omega)
  refine List.any_eq_true.2 ⟨a, ha, contains_iff.2 ?_⟩
  have e1 := mid_axis (x4.imp id (fun h => h a ha)) hP.1 hP.2
  have e2 := mid_axis (y4.imp id (fun h => h a ha)) hQ.1 hQ.2
  have e3 := mid_axis (z4.imp id (fun h => h a ha)) hR.1 hR.2
  simp only [cellX]
  omega

set_option maxHeartbeats 8000000

def nearI (al ah bl bh : Int) : Int × Int := if ah < bl then (ah, bl) else if bh < al then (al, bh) else (max al bl, max al bl)
def nearP (a b : Bx) (k : Int) : Int × Int := nearI (a.lo k) (a.hi k) (b.lo k) (b.hi k)
theorem near_tri (al ah bl bh : Int) : (ah < bl ∧ (nearI al ah bl bh).1 = ah ∧ (nearI al ah bl bh).2 = bl) ∨ (bl ≤ ah ∧ bh < al ∧ (nearI al ah bl bh).1 = al ∧ (nearI al ah bl bh).2 = bh) ∨
  (bl ≤ ah ∧ al ≤ bh ∧ (nearI al ah bl bh).1 = max al bl ∧ (nearI al ah bl bh).2 = max al bl) := by
 unfold nearI
 by_cases h1 : ah < bl
 ·rw [if_pos h1]; exact .inl ⟨h1, rfl, rfl⟩
 ·rw [if_neg h1]
  by_cases h2 : bh < al
  ·rw [if_pos h2]; exact .inr (.inl ⟨by omega, h2, rfl, rfl⟩)
  ·rw [if_neg h2]; exact .inr (.inr ⟨by omega, by omega, rfl, rfl⟩)

theorem point_c (x y z : Int) (w : World) : Calls Tryz.prog 188 #[(.agg #[.int .i64 x, .int .i64 y, .int .i64 z])] w (Ret w (.agg #[.int .i64 x, .int .i64 y, .int .i64 z])) := by
 go_enter Tryz.func188, Tryz.ntmps188
 go_wp2
 refine bodyPost_ret (v := (.agg #[.int .i64 x, .int .i64 y, .int .i64 z])) (by simp [results, Tryz.results188, go_sem]) rfl ?_
 exact Ret.of gro

def nearV (a b : Bx) : Value := .tuple #[(.agg #[.int .i64 (nearP a b 0).1, .int .i64 (nearP a b 1).1, .int .i64 (nearP a b 2).1]), (.agg #[.int .i64 (nearP a b 0).2, .int .i64 (nearP a b 1).2, .int .i64 (nearP a b 2).2]), .int .i64 0]

def pc (a b : Bx) (k j : Nat) (i : Int) : Int := if j < k then (nearP a b i).1 else 0
def qc (a b : Bx) (k j : Nat) (i : Int) : Int := if j < k then (nearP a b i).2 else 0
theorem ext_refl (w : World) : ∃ x, w = ext w x := ext_of (Below.refl _ _)

set_option maxRecDepth 100000 in
theorem Nearest_ok (a b : Bx) (ha : validB a = true) (hb : validB b = true) (w : World) :
  Calls Tryz.prog 134 #[(.agg #[.int .i64 a.lx, .int .i64 a.ly, .int .i64 a.lz, .int .i64 a.hx, .int .i64 a.hy, .int .i64 a.hz]), (.agg #[.int .i64 b.lx, .int .i64 b.ly, .int .i64 b.lz, .int .i64 b.hx, .int .i64 b.hy, .int .i64 b.hz])] w (Ret w (nearV a b)) := by
 go_enter Tryz.func134, Tryz.ntmps134
 go_wp2_with fail
 go_at_call 29; refine (valid_v a _ ha _).mono ?_; rintro e w' ⟨rfl, x1, rfl⟩
 go_wp2_with fail
 go_at_call 29; refine (valid_v b _ hb _).mono ?_; rintro e w' ⟨rfl, x2, rfl⟩
 go_wp2_with fail
 clear ha hb
 go_loopw [24] (fun i wr => ∃ k : Nat, k ≤ 3 ∧ i = .int .i64 k ∧ ∃ x, wr = ext (((ext (ext ((((w.alloc (.cells #[.int .i64 a.lx, .int .i64 a.ly, .int .i64 a.lz, .int .i64 a.hx, .int .i64 a.hy, .int .i64 a.hz] 40)).alloc (.cells #[.int .i64 b.lx, .int .i64 b.ly, .int .i64 b.lz, .int .i64 b.hx, .int .i64 b.hy, .int .i64 b.hz] 40)).alloc (.cells #[.int .i64 0, .int .i64 0, .int .i64 0] 38)).alloc (.cells #[.int .i64 0, .int .i64 0, .int .i64 0] 38)) x1) x2).alloc (.cells #[.int .i64 (pc a b k 0 0), .int .i64 (pc a b k 1 1), .int .i64 (pc a b k 2 2)] 212)).alloc (.cells #[.int .i64 (qc a b k 0 0), .int .i64 (qc a b k 1 1), .int .i64 (qc a b k 2 2)] 212)) x) (fun i _ => 3 - (intOf i).toNat)
 case atStart => exact ⟨0, by omega, rfl, ext_refl _⟩
 case round =>
  obtain ⟨k, hk, rfl, x3, rfl⟩ := hrel
  have hk3 : k = 0 ∨ k = 1 ∨ k = 2 ∨ k = 3 := by omega
  rcases hk3 with rfl | rfl | rfl | rfl
  ·rw [show pc a b 0 0 0 = 0 from rfl, show pc a b 0 1 1 = 0 from rfl, show pc a b 0 2 2 = 0 from rfl, show qc a b 0 0 0 = 0 from rfl, show qc a b 0 1 1 = 0 from rfl, show qc a b 0 2 2 = 0 from rfl]
   rcases near_tri a.lx a.hx b.lx b.hx with ⟨g, e, f⟩ | ⟨g, g', e, f⟩ | ⟨g, g', e, f⟩
   all_goals
    have E1 := hd0 e
    have E2 := hd0 f
    clear e f
    go_wp2_with fail
    go_at_call 70; refine (ends0_c a _).mono ?_; rintro e w' ⟨rfl, x4, rfl⟩
    go_wp2_with fail
    go_at_call 70; refine (ends0_c b _).mono ?_; rintro e w' ⟨rfl, x5, rfl⟩
    go_wp2_with fail
    go_roundw
    case rel => exact ⟨1, by omega, rfl, by rw [show pc a b 1 0 0 = _ from E1.out, show pc a b 1 1 1 = 0 from rfl, show pc a b 1 2 2 = 0 from rfl, show qc a b 1 0 0 = _ from E2.out, show qc a b 1 1 1 = 0 from rfl, show qc a b 1 2 2 = 0 from rfl]; exact ⟨_, by rw [ext_ext, ext_ext]⟩⟩
    case measure => simp [intOf]
  ·rw [show pc a b 1 0 0 = (nearP a b 0).1 from rfl, show pc a b 1 1 1 = 0 from rfl, show pc a b 1 2 2 = 0 from rfl, show qc a b 1 0 0 = (nearP a b 0).2 from rfl, show qc a b 1 1 1 = 0 from rfl, show qc a b 1 2 2 = 0 from rfl]
   rcases near_tri a.ly a.hy b.ly b.hy with ⟨g, e, f⟩ | ⟨g, g', e, f⟩ | ⟨g, g', e, f⟩
   all_goals
    have E1 := hd0 e
    have E2 := hd0 f
    clear e f
    go_wp2_with fail
    go_at_call 70; refine (ends1_c a _).mono ?_; rintro e w' ⟨rfl, x4, rfl⟩
    go_wp2_with fail
    go_at_call 70; refine (ends1_c b _).mono ?_; rintro e w' ⟨rfl, x5, rfl⟩
    go_wp2_with fail
    go_roundw
    case rel => exact ⟨2, by omega, rfl, by rw [show pc a b 2 0 0 = (nearP a b 0).1 from rfl, show pc a b 2 1 1 = _ from E1.out, show pc a b 2 2 2 = 0 from rfl, show qc a b 2 0 0 = (nearP a b 0).2 from rfl, show qc a b 2 1 1 = _ from E2.out, show qc a b 2 2 2 = 0 from rfl]; exact ⟨_, by rw [ext_ext, ext_ext]⟩⟩
    case measure => simp [intOf]
  ·rw [show pc a b 2 0 0 = (nearP a b 0).1 from rfl, show pc a b 2 1 1 = (nearP a b 1).1 from rfl, show pc a b 2 2 2 = 0 from rfl, show qc a b 2 0 0 = (nearP a b 0).2 from rfl, show qc a b 2 1 1 = (nearP a b 1).2 from rfl, show qc a b 2 2 2 = 0 from rfl]
   rcases near_tri a.lz a.hz b.lz b.hz with ⟨g, e, f⟩ | ⟨g, g', e, f⟩ | ⟨g, g', e, f⟩
   all_goals
    have E1 := hd0 e
    have E2 := hd0 f
    clear e f
    go_wp2_with fail
    go_at_call 70; refine (ends2_c a _).mono ?_; rintro e w' ⟨rfl, x4, rfl⟩
    go_wp2_with fail
    go_at_call 70; refine (ends2_c b _).mono ?_; rintro e w' ⟨rfl, x5, rfl⟩
    go_wp2_with fail
    go_roundw
    case rel => exact ⟨3, by omega, rfl, by rw [show pc a b 3 0 0 = (nearP a b 0).1 from rfl, show pc a b 3 1 1 = (nearP a b 1).1 from rfl, show pc a b 3 2 2 = _ from E1.out, show qc a b 3 0 0 = (nearP a b 0).2 from rfl, show qc a b 3 1 1 = (nearP a b 1).2 from rfl, show qc a b 3 2 2 = _ from E2.out]; exact ⟨_, by rw [ext_ext, ext_ext]⟩⟩
    case measure => simp [intOf]
  ·rw [show pc a b 3 0 0 = (nearP a b 0).1 from rfl, show pc a b 3 1 1 = (nearP a b 1).1 from rfl, show pc a b 3 2 2 = (nearP a b 2).1 from rfl, show qc a b 3 0 0 = (nearP a b 0).2 from rfl, show qc a b 3 1 1 = (nearP a b 1).2 from rfl, show qc a b 3 2 2 = (nearP a b 2).2 from rfl]
   go_wp2_with fail
   refine wp_region_tail 4 (by kernel_rfl) (by kernel_rfl) ?_; simp only [List.take_succ_cons, List.take_zero, List.drop_succ_cons, List.drop_zero]
   repeat (go_big_quiet_step ((go_at_call 188; exact Calls.quiet_ext (point_c _ _ _ _))))
   refine wpQuiet_nil ?_; rintro _ ⟨xq, rfl⟩
   go_wp2
   unfold nearV
   refine bodyPost_ret (v := .tuple #[(.agg #[.int .i64 (nearP a b 0).1, .int .i64 (nearP a b 1).1, .int .i64 (nearP a b 2).1]), (.agg #[.int .i64 (nearP a b 0).2, .int .i64 (nearP a b 1).2, .int .i64 (nearP a b 2).2]), .int .i64 0]) (by simp [results, Tryz.results134, go_sem]) rfl ?_
   exact Ret.of gro

set_option maxHeartbeats 400000

theorem Covers_arg (l : List Bx) (v : Value) (b : Bx) (w : World) (hl : Boxes w v l) (h : ¬ (l.all validB = true ∧ validB b = true)) :
  Calls Tryz.prog 269 #[v, (.agg #[.int .i64 b.lx, .int .i64 b.ly, .int .i64 b.lz, .int .i64 b.hx, .int .i64 b.hy, .int .i64 b.hz])] w (Ret w (.tuple #[.bool false, .int .i64 1])) := by
 cases ha : l.all validB
 ·go_enter Tryz.func269, Tryz.ntmps269
  go_wp2_with fail
  refine (all_c l _ _ (hl.below gro)).mono ?_; rintro e w' ⟨rfl, x, rfl⟩
  rw [ha]
  go_wp2
  go_ret2
  exact Ret.of gro
 ·have hb : validB b = false := by cases hb : validB b <;> simp_all
  clear h
  go_enter Tryz.func269, Tryz.ntmps269
  go_wp2_with fail
  refine (all_c l _ _ (hl.below gro)).mono ?_; rintro e w' ⟨rfl, x, rfl⟩
  rw [ha]
  go_wp2_with fail
  go_at_call 29; refine (valid_v b _ hb _).mono ?_; rintro e w' ⟨rfl, x, rfl⟩
  go_wp2
  go_ret2
  exact Ret.of gro

theorem Covers_full (l : List Bx) (v : Value) (b : Bx) (w : World) (hl : Boxes w v l) (h1 : l.all validB = true) (h2 : validB b = true) (hlen : 40 < l.length) :
  Calls Tryz.prog 269 #[v, (.agg #[.int .i64 b.lx, .int .i64 b.ly, .int .i64 b.lz, .int .i64 b.hx, .int .i64 b.hy, .int .i64 b.hz])] w (Ret w (.tuple #[.bool false, .int .i64 4])) := by
 obtain ⟨a, cap, rfl, hcap, hcap2, _⟩ := hl.shape
 have h40 : (40 : Int) < (l.length : Int) := by omega
 go_enter Tryz.func269, Tryz.ntmps269
 go_wp2_with fail
 refine (all_c l _ _ (hl.below gro)).mono ?_; rintro e w' ⟨rfl, x, rfl⟩
 rw [h1]
 go_wp2_with fail
 go_at_call 29; refine (valid_v b _ h2 _).mono ?_; rintro e w' ⟨rfl, x, rfl⟩
 go_wp2
 go_ret2
 exact Ret.of gro

def coversV (l : List Bx) (b : Bx) : Bool × Int :=
 if l.all validB = true ∧ validB b = true then (if l.length ≤ 40 then (coversB l b, 0) else (false, 4)) else (false, 1)
theorem Covers_c (l : List Bx) (v : Value) (b : Bx) (w : World) (hl : Boxes w v l) :
  Calls Tryz.prog 269 #[v, (.agg #[.int .i64 b.lx, .int .i64 b.ly, .int .i64 b.lz, .int .i64 b.hx, .int .i64 b.hy, .int .i64 b.hz])] w (Ret w (.tuple #[.bool (coversV l b).1, .int .i64 (coversV l b).2])) := by
 unfold coversV
 by_cases h : l.all validB = true ∧ validB b = true
 ·rw [if_pos h]
  by_cases hn : l.length ≤ 40
  ·rw [if_pos hn]; exact Covers_ok l v b w hl hn h.1 h.2
  ·rw [if_neg hn]; exact Covers_full l v b w hl h.1 h.2 (by omega)
 ·rw [if_neg h]; exact Covers_arg l v b w hl h

end Go.Proofs.YtkjljneehgmmaaaGreat


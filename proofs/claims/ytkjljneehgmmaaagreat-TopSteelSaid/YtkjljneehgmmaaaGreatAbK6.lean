/- TsV, TsW, TsX, TsY in one text. -/
import Derived.Test.YtkjljneehgmmaaaGreatAbK5
import Derived.Test.YtkjljneehgmmaaaGreatAaK5
import Derived.Test.YtkjljneehgmmaaaGreatAaK7
namespace Go.Proofs.YtkjljneehgmmaaaGreat
set_option linter.unusedVariables false
set_option linter.unusedSimpArgs false
open Go.RowKit
set_option maxRecDepth 20000
set_option maxHeartbeats 2000000
set_option maxRecDepth 100000

theorem pairCells_length (l : List (Int × Int)) : (pairCells l).length = l.length * 2 := by
 induction l with
 | nil => rfl
 | cons b l ih => show (.int .i64 b.1 :: .int .i64 b.2 :: pairCells l).length = _; simp [ih]; omega
theorem Prs.slice {w : World} {v : Value} {l : List (Int × Int)} (h : Prs w v l) : ∃ a cap, v = .slice a l.length cap ∧ l.length ≤ cap ∧ cap ≤ 9223372036854775807 ∧ (a = none → l.length = 0) ∧ ∀ a', a = some a' → ∀ j u, (pairCells l)[j]? = some u → w.cell? (a'.add j) = some u := by
 obtain ⟨a, cap, rfl, h1, h2, h3⟩ := h.shape
 refine ⟨a, cap, rfl, h1, h2, fun ha => ?_, fun a' ha j u hu => ?_⟩
 ·subst ha
  rcases Nat.eq_zero_or_pos l.length with e | e
  ·exact e
  ·obtain ⟨_, _, e', _⟩ := h3 0 e; cases e'
 ·subst ha
  have hj : j < 2 * l.length := by
   have := (List.getElem?_eq_some_iff.1 hu).1
   rw [pairCells_length] at this; omega
  obtain ⟨b, off, e, c0, c1⟩ := h3 (j / 2) (by omega)
  cases e
  obtain ⟨p1, p2⟩ := pairCells_get l (j / 2) (by omega)
  rcases Nat.mod_two_eq_zero_or_one j with hm | hm
  ·have e : j = j / 2 * 2 := by omega
   rw [e] at hu ⊢
   rw [Addr.add_mid, c0, ← p1]; exact hu
  ·have e : j = j / 2 * 2 + 1 := by omega
   rw [e] at hu ⊢
   rw [Addr.add_mid, ← Nat.add_assoc, c1, ← p2]; exact hu
theorem growNilS_c (n : Nat) (hn : n ≤ 100000) (w : World) :
  Calls Tryz.prog 132 #[.slice none 0 0, .int .i64 n] w (RetOwn w 109 2 0 []) := by
 rcases Nat.eq_zero_or_pos n with rfl | h0
 ·go_enter Tryz.func132, Tryz.ntmps132
  go_wp2
  go_ret
  exact ⟨_, rfl, World.ownsRow_nil _ _ _ _, ext_of gro⟩
 ·obtain ⟨i0, hi0, hz0, hz1, hz2⟩ := info_parts info_st
  have hm : grownCap w n 0 109 ≤ maxLen := grownCap_le_maxLen w n 0 _ (by unfold maxLen; omega)
  have hge := grownCap_ge w n 0 109
  have hr := hd0 (fun ty => Lib.run_append_nil_zeros (P := Tryz.prog) w 41 3 ty 109 i0 (.agg #[.int .i64 0, .int .i64 0]) .i64 .i64 Tryz.underlying41 Tryz.underlying3 hi0 hz0 n h0 (by omega) (by omega) (by rw [hz2]; omega))
  have hp : (0 : Int) < (n : Int) := by omega
  have hn2 : (n : Int) ≤ 100000 := by omega
  generalize grownCap w n 0 109 = C at *
  have HM := hd0 hm
  have HG := hd0 hge
  have hc2 : C ≤ 9223372036854775807 := hm
  clear hm
  go_enter Tryz.func132, Tryz.ntmps132
  go_wp2_with (at_builtin; refine Lib.wpList_append_run w rfl _ _ 41 3 rfl (.slice none 0 0) (.int .i64 n) rfl rfl _ _ (hr.out _) ?_)
  go_ret
  refine ⟨_, rfl, ?_, ext_of ?_⟩
  ·have := HG.out
   refine own_drew (World.ownsRow_made w _ C (Nat.le_refl _) HM.out ?_)
   rw [Array.size_append, size_zeroCells, size_zeroCells]
   show n * 2 + (C - n) * 2 = C * 2
   omega
  ·(repeat (first | exact grow_refl _ | refine grow_ext _ ?_ | refine grow_alloc _ ?_ | refine grow_drew ?_))

theorem concatS_c (l m : List (Int × Int)) (u t : Value) (g : Nat) (w : World) (hl : Prs w u l) (hm : Prs w t m) (hll : l.length ≤ 1000) (hml : m.length ≤ 1000) (c0 : w.cell? ⟨g, 0, none⟩ = some u) (c1 : w.cell? ⟨g, 1, none⟩ = some t) :
  Calls Tryz.prog 73 #[.slice (some ⟨g, 0, none⟩) 2 2] w (RetOwn w 109 2 (l ++ m).length (pairCells (l ++ m))) := by
 obtain ⟨a, cap, rfl, hcap, hcap2, hnil, hcell⟩ := hl.slice
 obtain ⟨a', cap', rfl, hcap', hcap2', hnil', hcell'⟩ := hm.slice
 have HC := hd0 hcell
 have HC' := hd0 hcell'
 have HN := hd0 hnil
 have HN' := hd0 hnil'
 clear hl hm hcell hcell' hnil hnil'
 have e1 : ((l.length : Int) + (m.length : Int)) = ((l.length + m.length : Nat) : Int) := by omega
 have HE := hd0 e1
 have hlm : l.length + m.length ≤ 100000 := by omega
 have n1 : ¬ ((l.length : Int) + (m.length : Int) < 0) := by omega
 have n0 : ¬ ((l.length : Int) < 0) := by omega
 clear e1
 go_enter Tryz.func73, Tryz.ntmps73
 go_wp2
 refine wp_loop_rounds 3 ?_
 rw [rounds_succ]
 go_wp2
 rw [rounds_succ]
 go_wp2
 rw [rounds_succ]
 go_wp2_with fail
 rw [HE.out]
 go_at_call 132; refine Calls.mono (growNilS_c (l.length + m.length) hlm _) ?_; rintro e w' ⟨v1, rfl, hown1, x1, rfl⟩
 have O1 := hd0 hown1
 clear hown1
 go_wp2
 refine wp_loop_rounds 3 ?_
 rw [rounds_succ]
 go_wp2_with (at_builtin; refine app_any rfl _ _ 41 rfl 109 (.agg #[.int .i64 0, .int .i64 0]) 2 16 Tryz.underlying41 info_st rfl (by decide) w v1 0 [] _ rfl O1.out a l.length cap (pairCells l) rfl (pairCells_length l) HN.out ?_ (pairCells_one l) ?_ (by decide) ?_ ?_; (exact fun a2 ha j q hj => cell_ext_some (HC.out a2 ha j q hj) _); omega; (repeat (first | exact grow_refl _ | refine grow_ext _ ?_ | refine grow_alloc _ ?_ | refine grow_drew ?_)); intro v2 x2 hown2 hgrow2)
 have O2 := hd0 hown2
 clear hown2 hgrow2
 rw [rounds_succ]
 go_wp2_with (at_builtin; refine app_any rfl _ _ 41 rfl 109 (.agg #[.int .i64 0, .int .i64 0]) 2 16 Tryz.underlying41 info_st rfl (by decide) w v2 (0 + l.length) ([] ++ pairCells l) _ rfl O2.out a' m.length cap' (pairCells m) rfl (pairCells_length m) HN'.out ?_ (pairCells_one m) ?_ (by decide) ?_ ?_; (exact fun a2 ha j q hj => cell_ext_some (HC'.out a2 ha j q hj) _); omega; (repeat (first | exact grow_refl _ | refine grow_ext _ ?_ | refine grow_alloc _ ?_ | refine grow_drew ?_)); intro v3 x3 hown3 hgrow3)
 have O3 := hd0 hown3
 clear hown3 hgrow3
 rw [rounds_succ]
 go_wp2
 go_ret
 refine ⟨_, rfl, ?_, ⟨_, rfl⟩⟩
 have := O3.out
 rw [Nat.zero_add, List.nil_append, ← pairCells_app, ← List.length_append] at this
 exact this

theorem equalSts_c (l : List (Int × Int)) (v v' : Value) (w : World) (h1 : Prs w v l) (h2 : Prs w v' l) :
  Calls Tryz.prog 38 #[v, v'] w (Ret w (.bool true)) := by
 obtain ⟨a, cap, rfl, hc1, hc2, hp⟩ := h1
 obtain ⟨b, cap', rfl, hd1, hd2, hq⟩ := h2
 have HP := hd0 hp
 have HQ := hd0 hq
 clear hp hq
 have hb : ((l.length : Int) == (l.length : Int)) = true := by simp
 have hb' : ((l.length : Int) != (l.length : Int)) = false := by simp
 go_enter Tryz.func38, Tryz.ntmps38
 go_wp2_with fail
 go_loopw [13] (fun i wr => ∃ k : Nat, k ≤ l.length ∧ i = .int .i64 k ∧ (∃ x, wr = ext w x)) (fun i _ => l.length - (intOf i).toNat)
 case atStart => exact ⟨0, Nat.zero_le _, rfl, ext_of gro⟩
 case round =>
  obtain ⟨k, hk, rfl, ⟨x, rfl⟩⟩ := hrel
  by_cases hlt : k < l.length
  ·obtain ⟨g, o, rfl, c0, c1⟩ := HP.out k hlt
   obtain ⟨g', o', rfl, d0, d1⟩ := HQ.out k hlt
   have c0 := cell_ext_some c0 x
   have c1 := cell_ext_some c1 x
   have d0 := cell_ext_some d0 x
   have d1 := cell_ext_some d1 x
   have i1 : (0 : Int) ≤ (k : Int) := by omega
   have i2 : (k : Int) < (l.length : Int) := by omega
   generalize l[k] = m at *
   obtain ⟨f, u⟩ := m
   simp only at *
   have e1 : (f == f) = true := by simp
   have e2 : (u == u) = true := by simp
   go_wp2_with fail
   refine wp_region_grows (by kernel_rfl) (by kernel_rfl) ?_
   repeat (go_big_quiet_step (fail))
   refine wpQuiet_nil ?_; rintro _ ⟨xq, rfl⟩
   go_wp2
   go_roundw
   case rel => exact ⟨k + 1, by omega, by go_num, ext_of gro⟩
   case measure => simp [intOf]; omega
  ·obtain rfl : k = l.length := by omega
   go_wp2
   go_ret
   exact Ret.of gro


structure Pt4 where
 lo : Int
 hi : Int
 there : Int
 wants : Int
def ptI (s d : List (Int × Int)) (ps : List Int) (i : Nat) : Pt4 := ⟨ps.getD i 0, if i + 1 < ps.length then ps.getD (i + 1) 0 - 1 else 1048576, atS s (ps.getD i 0), atS d (ps.getD i 0)⟩
def partsTo (s d : List (Int × Int)) (ps : List Int) (k : Nat) : List Pt4 := (List.range k).map (ptI s d ps)
theorem partsTo_succ (s d : List (Int × Int)) (ps : List Int) (k : Nat) : partsTo s d ps (k + 1) = partsTo s d ps k ++ [ptI s d ps k] := by simp [partsTo, List.range_succ]
theorem partsTo_length (s d : List (Int × Int)) (ps : List Int) (k : Nat) : (partsTo s d ps k).length = k := by simp [partsTo]
def failP (p : Pt4) : Bool := decide (p.there < p.wants)
def firstP (L : List Pt4) : Option Int := (L.find? failP).map (·.lo)
theorem list_range (ps : List Int) : ps = (List.range ps.length).map fun i => ps.getD i 0 := by
 refine List.ext_getElem (by simp) (fun i h1 h2 => ?_)
 rw [List.getElem_map, List.getElem_range, ← List.getElem_eq_getD (h := h1)]
theorem firstP_parts (s d : List (Int × Int)) (ps : List Int) : firstP (partsTo s d ps ps.length) = ps.find? (failB s d) := by
 have e : ps.find? (failB s d) = ((List.range ps.length).map fun i => ps.getD i 0).find? (failB s d) := congrArg _ (list_range ps)
 rw [e]
 unfold firstP partsTo
 rw [List.find?_map, List.find?_map, Option.map_map]
 rfl
theorem firstP_snoc (A : List Pt4) (p : Pt4) : firstP (A ++ [p]) = match firstP A with | some q => some q | none => if failP p = true then some p.lo else none := by
 unfold firstP
 rw [List.find?_append]
 cases h : A.find? failP with
 | some q => rfl
 | none => cases h2 : failP p <;> simp [h2]
def headI (R : List (Int × Int)) : Option Int := R.head?.map (·.1)
theorem firstP_skip {A : List Pt4} {p : Pt4} {R : List (Int × Int)} (h : headI R = firstP A) (hp : failP p = false) : headI R = firstP (A ++ [p]) := by
 rw [firstP_snoc, ← h, hp]
 cases headI R <;> rfl
theorem firstP_app {A : List Pt4} {p : Pt4} {R : List (Int × Int)} (h : headI R = firstP A) (hp : failP p = true) (z : Int) : headI (R ++ [(p.lo, z)]) = firstP (A ++ [p]) := by
 rw [firstP_snoc, ← h, hp]
 cases R <;> rfl
theorem firstP_set {A : List Pt4} {p : Pt4} {R : List (Int × Int)} (h : headI R = firstP A) (hR : R ≠ []) (i : Nat) (hi : i < R.length) (z : Int) : headI (R.set i (R[i].1, z)) = firstP (A ++ [p]) := by
 have e : headI (R.set i (R[i].1, z)) = headI R := by
  cases R with
  | nil => exact absurd rfl hR
  | cons a R => cases i <;> rfl
 rw [firstP_snoc, ← h, e]
 cases R with
 | nil => exact absurd rfl hR
 | cons a R => rfl
end Go.Proofs.YtkjljneehgmmaaaGreat

namespace Go.Proofs.YtkjljneehgmmaaaGreat
set_option linter.unusedVariables false
set_option linter.unusedSimpArgs false
open Go Go.RowKit
set_option maxRecDepth 20000

def rodsI (x : Dt) : List Rod := rodsTo x.l x.rs (countS x.rs).toNat
theorem rodsI_length (x : Dt) : (rodsI x).length = (countS x.rs).toNat := rodsTo_length _ _ _
theorem rodsI_get (x : Dt) {i : Int} (h0 : 0 ≤ i) (h1 : i < countS x.rs) : ∃ (k : Nat) (hk : k < (rodsI x).length), i = k ∧ (rodsI x)[k] = rodI x.l x.rs i := by
 have hl := rodsI_length x
 refine ⟨i.toNat, by omega, by omega, ?_⟩
 unfold rodsI rodsTo
 simp
 congr 1
 omega
def RodAt (w : World) (b off : Nat) (r : Rod) (u : Value) : Prop :=
 w.cell? ⟨b, off, none⟩ = some (.string r.bar.mark) ∧ w.cell? ⟨b, off + 1, none⟩ = some (.int .i64 r.bar.size) ∧ w.cell? ⟨b, off + 2, none⟩ = some (.int .i64 r.bar.count) ∧ w.cell? ⟨b, off + 3, none⟩ = some (.int .i64 r.bar.code) ∧
 w.cell? ⟨b, off + 4, none⟩ = some r.bar.dv ∧ w.cell? ⟨b, off + 5, none⟩ = some u ∧ w.cell? ⟨b, off + 6, none⟩ = some (.int .i64 r.main)
theorem RodAt.ext {w : World} {b off : Nat} {r : Rod} {u : Value} (h : RodAt w b off r u) (y : World) : RodAt (ext w y) b off r u :=
 let ⟨h0, h1, h2, h3, h4, h5, h6⟩ := h
 ⟨cell_ext_some h0 y, cell_ext_some h1 y, cell_ext_some h2 y, cell_ext_some h3 y, cell_ext_some h4 y, cell_ext_some h5 y, cell_ext_some h6 y⟩
theorem RodAt.below {w w' : World} {b off : Nat} {r : Rod} {u : Value} (h : RodAt w b off r u) (hb : Below w.heap.size w w') : RodAt w' b off r u := by
 obtain ⟨y, rfl⟩ := ext_of hb
 exact h.ext y
def RodsR (w : World) (v : Value) (L : List Rod) : Prop :=
 ∃ a cap, v = .slice a L.length cap ∧ L.length ≤ cap ∧ cap ≤ 9223372036854775807 ∧ ∀ i (h : i < L.length), ∃ b off u, a = some ⟨b, off, none⟩ ∧ RodAt w b (off + i * 7) L[i] u ∧ Boxes w u L[i].legs
theorem RodsR.below {w w' : World} {v : Value} {L : List Rod} (h : RodsR w v L) (hb : Below w.heap.size w w') : RodsR w' v L := by
 obtain ⟨a, cap, h1, h2, h3, h4⟩ := h
 obtain ⟨y, rfl⟩ := ext_of hb
 exact ⟨a, cap, h1, h2, h3, fun i hi => let ⟨b, off, u, e, hr, hx⟩ := h4 i hi; ⟨b, off, u, e, hr.ext y, hx.ext y⟩⟩
theorem RodsR.shape {w : World} {v : Value} {L : List Rod} (h : RodsR w v L) : ∃ a cap, v = .slice a L.length cap ∧ L.length ≤ cap ∧ cap ≤ 9223372036854775807 ∧ ∀ i (h : i < L.length), ∃ b off u, a = some ⟨b, off, none⟩ ∧ RodAt w b (off + i * 7) L[i] u ∧ Boxes w u L[i].legs := h
theorem rodCells_get (P : List (Rod × Value)) (i : Nat) (h : i < P.length) (j : Nat) (hj : j < 7) : (rodCells P)[i * 7 + j]? = (rod1 P[i].1 P[i].2)[j]? := by
 induction P generalizing i with
 | nil => exact absurd h (Nat.not_lt_zero _)
 | cons p P ih =>
   have e : rodCells (p :: P) = rod1 p.1 p.2 ++ rodCells P := rfl
   rw [e]
   cases i with
   | zero => rw [Nat.zero_mul, Nat.zero_add]; exact List.getElem?_append_left (by simpa [rod1] using hj)
   | succ i =>
     rw [List.getElem?_append_right (by simp [rod1]; omega)]
     have e2 : (i + 1) * 7 + j - (rod1 p.1 p.2).length = i * 7 + j := by simp [rod1]; omega
     rw [e2]
     exact ih i (by simpa using h)
theorem Rods.read {w W : World} {v : Value} {L : List Rod} (h : Rods w W v L) : RodsR W v L := by
 obtain ⟨P, h1, h2, h3⟩ := h.row
 have hlen : P.length = L.length := by rw [← h1, List.length_map]
 obtain ⟨a, cap, rfl, q1, q2, q3⟩ := own_shape h2
 unfold maxLen at q2
 refine ⟨a, cap, rfl, q1, by omega, fun i hi => ?_⟩
 obtain ⟨g, rfl, _, hc⟩ := q3 (by omega)
 have hi' : i < P.length := by omega
 have hr : L[i] = (P[i]).1 := by subst h1; simp
 have key : ∀ j, j < 7 → W.cell? ⟨g, 0 + i * 7 + j, none⟩ = (rod1 P[i].1 P[i].2)[j]? := fun j hj => by rw [Nat.zero_add, hc _ (by omega)]; exact rodCells_get P i hi' j hj
 refine ⟨g, 0, P[i].2, rfl, ?_, ?_⟩
 ·rw [hr]
  exact ⟨key 0 (by decide), key 1 (by decide), key 2 (by decide), key 3 (by decide), key 4 (by decide), key 5 (by decide), key 6 (by decide)⟩
 ·rw [hr]
  exact Boxes.of_own (h3 _ (List.getElem_mem hi'))
def ch1 (c : Ch) (u : Value) : List Value := [u, .int .i64 c.lo, .int .i64 c.hi, .bool c.is, .int .i64 c.area]
def chCells (P : List (Ch × Value)) : List Value := P.flatMap fun p => ch1 p.1 p.2
theorem chCells_app (a b : List (Ch × Value)) : chCells (a ++ b) = chCells a ++ chCells b := by unfold chCells; rw [List.flatMap_append]
theorem chCells_length (P : List (Ch × Value)) : (chCells P).length = P.length * 5 := by
 induction P with
 | nil => rfl
 | cons p P ih =>
   have e : chCells (p :: P) = ch1 p.1 p.2 ++ chCells P := rfl
   rw [e, List.length_append, ih, List.length_cons]
   simp [ch1]; omega
theorem chCells_get (P : List (Ch × Value)) (i : Nat) (h : i < P.length) (j : Nat) (hj : j < 5) : (chCells P)[i * 5 + j]? = (ch1 P[i].1 P[i].2)[j]? := by
 induction P generalizing i with
 | nil => exact absurd h (Nat.not_lt_zero _)
 | cons p P ih =>
   have e : chCells (p :: P) = ch1 p.1 p.2 ++ chCells P := rfl
   rw [e]
   cases i with
   | zero => rw [Nat.zero_mul, Nat.zero_add]; exact List.getElem?_append_left (by simpa [ch1] using hj)
   | succ i =>
     rw [List.getElem?_append_right (by simp [ch1]; omega)]
     have e2 : (i + 1) * 5 + j - (ch1 p.1 p.2).length = i * 5 + j := by simp [ch1]; omega
     rw [e2]
     exact ih i (by simpa using h)
structure ChO (W1 W : World) (v : Value) (L : List Ch) : Prop where
 below : Below W1.heap.size W1 W
 row : ∃ P : List (Ch × Value), P.map (·.1) = L ∧ W.ownsRow W1.heap.size 79 5 v L.length (chCells P) ∧ ∀ p ∈ P, Nts W1 p.2 p.1.bars
theorem ChO.nil (W : World) : ChO W W (.slice none 0 0) [] := ⟨Below.refl _ _, [], rfl, World.ownsRow_nil _ _ _ _, fun p hp => by cases hp⟩
theorem ChO.grows {W1 W W' : World} {v : Value} {L : List Ch} (h : ChO W1 W v L) (hb : Below W.heap.size W W') : ChO W1 W' v L := by
 obtain ⟨P, h1, h2, h3⟩ := h.row
 exact ⟨h.below.trans (Below.mono hb h.below.size), P, h1, own_grows h2 hb, h3⟩
theorem ChO.shape {W1 W : World} {v : Value} {L : List Ch} (h : ChO W1 W v L) : ∃ a c, v = .slice a L.length c := by
 obtain ⟨P, h1, h2, -⟩ := h.row
 obtain ⟨a, c, rfl, -, -, -⟩ := own_shape h2
 exact ⟨a, c, rfl⟩
theorem ChO.app {W1 W W' : World} {v v' u : Value} {L : List Ch} {P : List (Ch × Value)} {c : Ch} (hb : Below W1.heap.size W1 W) (h1 : P.map (·.1) = L) (h2 : W.ownsRow W1.heap.size 79 5 v L.length (chCells P)) (h3 : ∀ p ∈ P, Nts W1 p.2 p.1.bars)
  (hu : Nts W1 u c.bars) (hown : W'.ownsRow W1.heap.size 79 5 v' (L.length + 1) (chCells P ++ ch1 c u)) (hg : W.grownBy W' v.ownBlock) : ChO W1 W' v' (L ++ [c]) := by
 refine ⟨hb.grown hg hb.size (fun j e => (h2.lt j e).1), P ++ [(c, u)], by simp [h1], ?_, fun p hp => ?_⟩
 ·rw [chCells_app, List.length_append]
  simpa [chCells] using hown
 ·rcases List.mem_append.1 hp with hp | hp
  ·exact h3 p hp
  ·obtain rfl := List.mem_singleton.1 hp
   exact hu
theorem info_ch : (Tryz.prog.info? 79).map (fun i => (i.zero, i.size, i.bytes)) = some (some (.agg #[.slice none 0 0, .int .i64 0, .int .i64 0, .bool false, .int .i64 0]), 5, 56) := by kernel_rfl
def ChAt (w : World) (b off : Nat) (c : Ch) (u : Value) : Prop :=
 w.cell? ⟨b, off, none⟩ = some u ∧ w.cell? ⟨b, off + 1, none⟩ = some (.int .i64 c.lo) ∧ w.cell? ⟨b, off + 2, none⟩ = some (.int .i64 c.hi) ∧ w.cell? ⟨b, off + 3, none⟩ = some (.bool c.is) ∧ w.cell? ⟨b, off + 4, none⟩ = some (.int .i64 c.area)
theorem ChAt.ext {w : World} {b off : Nat} {c : Ch} {u : Value} (h : ChAt w b off c u) (y : World) : ChAt (ext w y) b off c u :=
 let ⟨h0, h1, h2, h3, h4⟩ := h
 ⟨cell_ext_some h0 y, cell_ext_some h1 y, cell_ext_some h2 y, cell_ext_some h3 y, cell_ext_some h4 y⟩
theorem ChAt.below {w w' : World} {b off : Nat} {c : Ch} {u : Value} (h : ChAt w b off c u) (hb : Below w.heap.size w w') : ChAt w' b off c u := by
 obtain ⟨y, rfl⟩ := ext_of hb
 exact h.ext y
def ChR (w : World) (v : Value) (L : List Ch) : Prop :=
 ∃ a cap, v = .slice a L.length cap ∧ L.length ≤ cap ∧ cap ≤ 9223372036854775807 ∧ ∀ i (h : i < L.length), ∃ b off u, a = some ⟨b, off, none⟩ ∧ ChAt w b (off + i * 5) L[i] u ∧ Nts w u L[i].bars
theorem ChR.below {w w' : World} {v : Value} {L : List Ch} (h : ChR w v L) (hb : Below w.heap.size w w') : ChR w' v L := by
 obtain ⟨a, cap, h1, h2, h3, h4⟩ := h
 exact ⟨a, cap, h1, h2, h3, fun i hi => let ⟨b, off, u, e, hr, hx⟩ := h4 i hi; ⟨b, off, u, e, hr.below hb, hx.below hb⟩⟩
theorem ChR.shape {w : World} {v : Value} {L : List Ch} (h : ChR w v L) : ∃ a cap, v = .slice a L.length cap ∧ L.length ≤ cap ∧ cap ≤ 9223372036854775807 ∧ ∀ i (h : i < L.length), ∃ b off u, a = some ⟨b, off, none⟩ ∧ ChAt w b (off + i * 5) L[i] u ∧ Nts w u L[i].bars := h
theorem ChO.read {W1 W : World} {v : Value} {L : List Ch} (h : ChO W1 W v L) : ChR W v L := by
 obtain ⟨P, h1, h2, h3⟩ := h.row
 have hlen : P.length = L.length := by rw [← h1, List.length_map]
 obtain ⟨a, cap, rfl, q1, q2, q3⟩ := own_shape h2
 unfold maxLen at q2
 refine ⟨a, cap, rfl, q1, by omega, fun i hi => ?_⟩
 obtain ⟨g, rfl, _, hc⟩ := q3 (by omega)
 have hi' : i < P.length := by omega
 have hr : L[i] = (P[i]).1 := by subst h1; simp
 have key : ∀ j, j < 5 → W.cell? ⟨g, 0 + i * 5 + j, none⟩ = (ch1 P[i].1 P[i].2)[j]? := fun j hj => by rw [Nat.zero_add, hc _ (by omega)]; exact chCells_get P i hi' j hj
 refine ⟨g, 0, P[i].2, rfl, ?_, ?_⟩
 ·rw [hr]
  exact ⟨key 0 (by decide), key 1 (by decide), key 2 (by decide), key 3 (by decide), key 4 (by decide)⟩
 ·rw [hr]
  exact (h3 _ (List.getElem_mem hi')).below h.below
set_option maxHeartbeats 4000000

theorem rodLeg_c (r : Rod) (u : Value) (k : Nat) (hk : k < r.legs.length) (hm : r.main = k) (hd : ∃ a n c, r.bar.dv = .slice a n c) (w : World) (hu : Boxes w u r.legs) :
  Calls Tryz.prog 25 #[.agg #[.string r.bar.mark, .int .i64 r.bar.size, .int .i64 r.bar.count, .int .i64 r.bar.code, r.bar.dv, u, .int .i64 r.main]] w (Ret w ((.agg #[.int .i64 r.legs[k].lx, .int .i64 r.legs[k].ly, .int .i64 r.legs[k].lz, .int .i64 r.legs[k].hx, .int .i64 r.legs[k].hy, .int .i64 r.legs[k].hz]))) := by
 obtain ⟨bar, legs, main⟩ := r
 obtain ⟨mark, size, count, code, dims, dv⟩ := bar
 simp only at *
 obtain ⟨da, dn, dc, rfl⟩ := hd
 subst hm
 obtain ⟨a, cap, rfl, -, -, h4⟩ := hu.shape
 have hk' : k < legs.length := hk
 obtain ⟨b, off, rfl, hb⟩ := h4 k hk
 have q1 : (0 : Int) ≤ (k : Int) := by omega
 have q2 : (k : Int) < (legs.length : Int) := by omega
 clear hu h4
 generalize legs[k] = g at *
 clear hk hk'
 generalize legs.length = n at *
 obtain ⟨c0, c1, c2, c3, c4, c5⟩ := hb
 go_enter Tryz.func25, Tryz.ntmps25
 go_wp2
 refine bodyPost_ret (v := (.agg #[.int .i64 g.lx, .int .i64 g.ly, .int .i64 g.lz, .int .i64 g.hx, .int .i64 g.hy, .int .i64 g.hz])) (by simp [results, Tryz.results25, go_sem]) rfl ?_
 exact Ret.of gro
theorem isNaN_c (a : Int) (w : World) : Calls Tryz.prog 176 #[.int .i64 a] w (Ret w (.bool false)) := by
 have d1 : (a != a) = false := by simp
 go_enter Tryz.func176, Tryz.ntmps176
 go_wp2
 go_ret
 exact Ret.of gro
def cmpI (a b : Int) : Int := if a < b then -1 else if b < a then 1 else 0
theorem cmpI_neg (a b : Int) : decide (cmpI a b < 0) = decide (a < b) := by
 rw [decide_eq_decide]
 unfold cmpI
 split
 ·omega
 ·split <;> omega
theorem compare_c (a b : Int) (w : World) : Calls Tryz.prog 167 #[.int .i64 a, .int .i64 b] w (Ret w (.int .i64 (cmpI a b))) := by
 have H1 := hd0 (fun w => isNaN_c a w)
 have H2 := hd0 (fun w => isNaN_c b w)
 unfold cmpI
 by_cases h1 : a < b
 ·rw [if_pos h1]
  have d1 : decide (a < b) = true := by simpa using h1
  clear h1
  go_enter Tryz.func167, Tryz.ntmps167
  go_wp2_with fail
  go_at_call 176; refine (H1.out _).mono ?_; rintro e w' ⟨rfl, x1, rfl⟩
  go_wp2_with fail
  go_at_call 176; refine (H2.out _).mono ?_; rintro e w' ⟨rfl, x2, rfl⟩
  go_wp2
  go_ret
  exact Ret.of gro
 ·rw [if_neg h1]
  have d1 : decide (a < b) = false := by simpa using h1
  clear h1
  by_cases h2 : b < a
  ·rw [if_pos h2]
   have d2 : decide (b < a) = true := by simpa using h2
   clear h2
   go_enter Tryz.func167, Tryz.ntmps167
   go_wp2_with fail
   go_at_call 176; refine (H1.out _).mono ?_; rintro e w' ⟨rfl, x1, rfl⟩
   go_wp2_with fail
   go_at_call 176; refine (H2.out _).mono ?_; rintro e w' ⟨rfl, x2, rfl⟩
   go_wp2
   go_ret
   exact Ret.of gro
  ·rw [if_neg h2]
   have d2 : decide (b < a) = false := by simpa using h2
   clear h2
   go_enter Tryz.func167, Tryz.ntmps167
   go_wp2_with fail
   go_at_call 176; refine (H1.out _).mono ?_; rintro e w' ⟨rfl, x1, rfl⟩
   go_wp2_with fail
   go_at_call 176; refine (H2.out _).mono ?_; rintro e w' ⟨rfl, x2, rfl⟩
   go_wp2
   go_ret
   exact Ret.of gro
theorem minBy_snoc (f : Int → Int) (l : List Int) (b : Int) : ∀ a, minBy f a (l ++ [b]) = if f b < f (minBy f a l) then b else minBy f a l := by
 induction l with
 | nil => intro a; rfl
 | cons c l ih => intro a; exact ih _
set_option maxRecDepth 100000 in
theorem minFunc_cI (F : Nat) (hE : Enters F) (caps : Array Value) (f : Int → Int) (a0 : Int) (l : List Int) (v : Value) (hlen : l.length ≤ 1000000000) (w : World) (hl : Nts w v (a0 :: l))
  (hf : ∀ b c x, b ∈ a0 :: l → c ∈ a0 :: l → Calls Tryz.prog F (#[.int .i64 b, .int .i64 c] ++ caps) (ext w x) (Ret (ext w x) (.int .i64 (cmpI (f b) (f c))))) :
  Calls Tryz.prog 165 #[v, .func (.func F) #[] caps] w (Ret w (.int .i64 (minBy f a0 l))) := by
 obtain ⟨a, cap, rfl, -, -, h4⟩ := hl.shape
 obtain ⟨b0, off, rfl, hb0⟩ := h4 0 (by simp)
 have hb0' : w.cell? ⟨b0, off, none⟩ = some (.int .i64 a0) := by simpa using hb0
 have HF := hd0 hf
 have H4 := hd0 h4
 have HM := hd0 (fun k => minBy_mem f (l.take k) a0)
 have e0 : ((a0 :: l).length : Int) = (l.length : Int) + 1 := by simp
 have n1 : ¬ ((l.length : Int) + 1 < 1) := by omega
 have n0 : (0 : Int) < (l.length : Int) + 1 := by omega
 rw [show (Value.slice (some ⟨b0, off, none⟩) (a0 :: l).length cap) = .slice (some ⟨b0, off, none⟩) (l.length + 1) cap from rfl]
 clear hf hl h4 hb0 e0
 go_enter Tryz.func165, Tryz.ntmps165
 go_wp2_with fail
 go_loopw [6, 5] (fun i m wr => ∃ k : Nat, k ≤ l.length ∧ i = .int .i64 ((k : Int) + 1) ∧ m = .int .i64 (minBy f a0 (l.take k)) ∧ (∃ x, wr = ext w x)) (fun i _ _ => l.length + 1 - (intOf i).toNat)
 case atStart => exact ⟨0, Nat.zero_le _, rfl, rfl, ext_of gro⟩
 case round =>
  obtain ⟨k, hk, rfl, rfl, ⟨x, rfl⟩⟩ := hrel
  clear hb0'
  by_cases hlt : k < l.length
  ·obtain ⟨b, off', e', hb⟩ := H4.out (k + 1) (by simp; omega)
   cases e'
   have hb' : (ext w x).cell? ⟨b0, off + (k + 1), none⟩ = some (.int .i64 l[k]) := by
    have := cell_ext_some hb x
    simpa using this
   have HT := hd0 (show minBy f a0 (l.take (k + 1)) = if f l[k] < f (minBy f a0 (l.take k)) then l[k] else minBy f a0 (l.take k) by rw [List.take_succ_eq_append_getElem hlt, minBy_snoc])
   have hm2 : minBy f a0 (l.take k) ∈ a0 :: l := by
    rcases HM.out k with h | h
    ·rw [h]; exact List.mem_cons_self
    ·exact List.mem_cons_of_mem _ (List.mem_of_mem_take h)
   have HC := hd0 (HF.out l[k] (minBy f a0 (l.take k)) x (List.mem_cons_of_mem _ (List.getElem_mem hlt)) hm2)
   have HN := hd0 (cmpI_neg (f l[k]) (f (minBy f a0 (l.take k))))
   have q1 : (0 : Int) ≤ (k : Int) + 1 := by omega
   have q2 : (k : Int) + 1 < (l.length : Int) + 1 := by omega
   have q3 : ((k : Int) + 1).toNat = k + 1 := by omega
   have q4 : (l.length : Int) ≤ 1000000000 := by omega
   generalize l[k] = y at *
   generalize minBy f a0 (l.take k) = m at *
   clear hb hm2
   by_cases hc : f y < f m
   ·rw [if_pos hc] at HT
    rw [decide_eq_true hc] at HN
    clear hc
    go_wp2_with fail
    rw [show ∀ (a : Array Value) (w : World), (callFunc F a).run Tryz.prog w = .ok (.enter F a) w from hE, Oper.upon_enter]
    refine HC.out.mono ?_
    rintro e w' ⟨rfl, x2, rfl⟩
    have d1 := HN.out
    generalize cmpI (f y) (f m) = c at *
    have hb2 := cell_ext_some hb' x2
    clear hb'
    go_wp2
    go_roundw
    case rel => exact ⟨k + 1, by omega, by go_num, by rw [HT.out], ext_of gro⟩
    case measure => simp [intOf]; omega
   ·rw [if_neg hc] at HT
    rw [decide_eq_false hc] at HN
    clear hc
    go_wp2_with fail
    rw [show ∀ (a : Array Value) (w : World), (callFunc F a).run Tryz.prog w = .ok (.enter F a) w from hE, Oper.upon_enter]
    refine HC.out.mono ?_
    rintro e w' ⟨rfl, x2, rfl⟩
    have d1 := HN.out
    generalize cmpI (f y) (f m) = c at *
    clear hb'
    go_wp2
    go_roundw
    case rel => exact ⟨k + 1, by omega, by go_num, by rw [HT.out], ext_of gro⟩
    case measure => simp [intOf]; omega
  ·obtain rfl : k = l.length := by omega
   rw [List.take_length]
   go_wp2
   go_ret
   exact Ret.of gro
theorem chains1_c (L : List Rod) (v : Value) (g i j : Nat) (hi : i < L.length) (hj : j < L.length) (w : World) (hl : RodsR w v L) (hg : w.cell? ⟨g, 0, none⟩ = some v) :
  Calls Tryz.prog 166 #[.int .i64 i, .int .i64 j, .pointer (some ⟨g, 0, none⟩)] w (Ret w (.int .i64 (cmpI (L[i]).bar.size (L[j]).bar.size))) := by
 obtain ⟨a, cap, rfl, -, -, h4⟩ := hl.shape
 obtain ⟨b, off, u, rfl, ⟨-, c1, -⟩, -⟩ := h4 i hi
 obtain ⟨b', off', u', e', ⟨-, c2, -⟩, -⟩ := h4 j hj
 cases e'
 have q1 : (0 : Int) ≤ (i : Int) := by omega
 have q2 : (i : Int) < (L.length : Int) := by omega
 have q3 : (0 : Int) ≤ (j : Int) := by omega
 have q4 : (j : Int) < (L.length : Int) := by omega
 generalize (L[i]).bar.size = s at *
 generalize (L[j]).bar.size = t at *
 clear hl h4 hi hj
 generalize L.length = n at *
 have HC := hd0 (fun w => compare_c s t w)
 generalize cmpI s t = r at *
 go_enter Tryz.func166, Tryz.ntmps166
 go_wp2_with fail
 refine wp_region_grows (by kernel_rfl) (by kernel_rfl) ?_
 repeat (go_big_quiet_step ((go_at_call 167; exact Calls.quiet_ext (HC.out _))))
 refine wpQuiet_nil ?_; rintro _ ⟨xq, rfl⟩
 go_wp2
 go_ret
 exact Ret.of gro
theorem enters_chains1 : Enters 166 := enters_of Tryz.func166 (by decide) (by simp [Tryz.f166])
theorem minChn_c (x : Dt) (c : List Int) (hc : ChnOk x c) (u rv : Value) (g : Nat) (w : World) (hr : RodsR w rv (rodsI x)) (hg : w.cell? ⟨g, 0, none⟩ = some rv) (hu : Nts w u c) :
  Calls Tryz.prog 165 #[u, .func (.func 166) #[] #[.pointer (some ⟨g, 0, none⟩)]] w (Ret w (.int .i64 (thinI x c))) := by
 cases c with
 | nil => exact absurd rfl hc.ne
 | cons a l =>
   have hlen := hc.len
   refine minFunc_cI _ enters_chains1 _ (sizeI x.l x.rs) a l u (by simp at hlen; omega) w hu (fun b c y hb hc2 => ?_)
   obtain ⟨b0, b1⟩ := hc.one b hb
   obtain ⟨c0, c1⟩ := hc.one c hc2
   obtain ⟨kb, hkb, rfl, eb⟩ := rodsI_get x b0 b1
   obtain ⟨kc, hkc, rfl, ec⟩ := rodsI_get x c0 c1
   have h := chains1_c (rodsI x) rv g kb kc hkb hkc (ext w y) (hr.below (below_ext w y)) (cell_ext_some hg y)
   rw [eb, ec] at h
   exact h
def NtsR (w : World) (v : Value) (L : List (List Int)) : Prop :=
 ∃ a cap, v = .slice a L.length cap ∧ L.length ≤ cap ∧ cap ≤ 9223372036854775807 ∧ ∀ i (h : i < L.length), ∃ b off u, a = some ⟨b, off, none⟩ ∧ w.cell? ⟨b, off + i, none⟩ = some u ∧ Nts w u L[i]
theorem NtsR.below {w w' : World} {v : Value} {L : List (List Int)} (h : NtsR w v L) (hb : Below w.heap.size w w') : NtsR w' v L := by
 obtain ⟨a, cap, h1, h2, h3, h4⟩ := h
 obtain ⟨y, rfl⟩ := ext_of hb
 exact ⟨a, cap, h1, h2, h3, fun i hi => let ⟨b, off, u, e, hr, hx⟩ := h4 i hi; ⟨b, off, u, e, cell_ext_some hr y, hx.ext y⟩⟩
theorem Rws.read {w W : World} {v : Value} {L : List (List Int)} (h : Rws w W v L) : NtsR W v L := by
 obtain ⟨vs, h1, h2, h3⟩ := h.row
 obtain ⟨a, cap, rfl, q1, q2, q3⟩ := own_shape h1
 unfold maxLen at q2
 refine ⟨a, cap, rfl, q1, by omega, fun i hi => ?_⟩
 obtain ⟨g, rfl, _, hc⟩ := q3 (by omega)
 refine ⟨g, 0, vs[i]'(by omega), rfl, by rw [Nat.zero_add, hc _ (by omega)]; simp [show i < vs.length by omega], Nts.of_own (h3 i hi (by omega)) rfl⟩
structure ScJ (w : World) (x : Dt) (g5 : Nat) (rv : Value) (W : World) : Prop where
 below : Below w.heap.size w W
 dt : Blk W w.heap.size (dtC x) 34
 g5 : Blk W g5 #[rv] 73
 rods : RodsR W rv (rodsI x)
theorem ScJ.grows {w W W' : World} {x : Dt} {g5 : Nat} {rv : Value} (h : ScJ w x g5 rv W) (hb : Below W.heap.size W W') : ScJ w x g5 rv W' := ⟨h.below.trans (Below.mono hb h.below.size), h.dt.below hb, h.g5.below hb, h.rods.below hb⟩
def RetCh (w : World) (x : Dt) (L : List Ch) (e : Ending) (W : World) : Prop :=
 ∃ u v W1, e = .returned (.tuple #[u, v, .int .i64 0]) ∧ Below w.heap.size w W1 ∧ RodsR W1 u (rodsI x) ∧ ChO W1 W v L
theorem mainAt_none {L : List Bx} (h : L.find? mainB = none) : mainAt L = -1 := by
 unfold mainAt
 rw [List.findIdx?_eq_none_iff.2 (fun b hb => by have := List.find?_eq_none.1 h b hb; simpa using this)]
 rfl
theorem mainAt_some {L : List Bx} {g : Bx} (h : L.find? mainB = some g) : ∃ (k : Nat) (hk : k < L.length), L[k] = g ∧ mainAt L = k ∧ L.findIdx? mainB = some k := by
 obtain ⟨hm, l1, l2, rfl, hn⟩ := List.find?_eq_some_iff_append.1 h
 have e : (l1 ++ g :: l2).findIdx? mainB = some l1.length := by
  rw [List.findIdx?_eq_some_iff_getElem]
  refine ⟨by simp, by simpa using hm, fun j hj => ?_⟩
  rw [List.getElem_append_left hj]
  have := hn _ (List.getElem_mem hj)
  simpa using this
 exact ⟨l1.length, by simp, by simp, by unfold mainAt; rw [e]; rfl, e⟩
theorem below_row {B W : World} (h : Below B.heap.size B W) {g : Nat} (hg : B.heap.size ≤ g) (cs : Array Value) : Below B.heap.size B (W.setRow g cs) :=
 h.trans ⟨rfl, rfl, rfl, by simp [World.setRow], fun k hk => setRow_other W g k cs (by omega)⟩
theorem blk_row {W : World} {g : Nat} {cs : Array Value} {t : TypeId} (h : Blk W g cs t) (cs' : Array Value) : Blk (W.setRow g cs') g cs' t := setRow_heap _ _ _ _ _ _ h
theorem blk_row_other {W : World} {g k : Nat} {cs : Array Value} {t : TypeId} (h : Blk W k cs t) (hne : k ≠ g) (cs' : Array Value) : Blk (W.setRow g cs') k cs t := (setRow_other W g k cs' hne).trans h
theorem fill7 {cs : Array Value} {a b c d e f g : Value} (h : cs.size = (#[a, b, c, d, e, f, g] : Array Value).size) : ((((((cs.setIfInBounds 0 a).setIfInBounds 1 b).setIfInBounds 2 c).setIfInBounds 3 d).setIfInBounds 4 e).setIfInBounds 5 f).setIfInBounds 6 g = #[a, b, c, d, e, f, g] := by
 obtain ⟨l⟩ := cs
 match l, h with
 | [_, _, _, _, _, _, _], _ => rfl
end Go.Proofs.YtkjljneehgmmaaaGreat


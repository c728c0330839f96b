/- TsH, TsP in one text. -/
import Derived.Test.YtkjljneehgmmaaaGreatAaK3
import Derived.Test.YtkjljneehgmmaaaGreatLaidK3
import Derived.Test.YtkjljneehgmmaaaGreatBoxK2
namespace Go.Proofs.YtkjljneehgmmaaaGreat
set_option linter.unusedVariables false
set_option linter.unusedSimpArgs false
open Go.RowKit
set_option maxRecDepth 20000

def plcP (tx ty : Int) (c p : Pt) : Pt := ⟨c.x + (imgP tx ty p).x, c.y + (imgP tx ty p).y, c.z + (imgP tx ty p).z⟩
theorem placedAt_c (tx ty : Int) (c p : Pt) (h : turnB tx ty = true) (hc : NearP c 1048576) (hp : NearP p 1048576) (w : World) : Calls Tryz.prog 230 #[.agg #[.int .i64 tx, .int .i64 ty], (.agg #[.int .i64 c.x, .int .i64 c.y, .int .i64 c.z]), (.agg #[.int .i64 p.x, .int .i64 p.y, .int .i64 p.z])] w (Ret w (.agg #[.int .i64 (plcP tx ty c p).x, .int .i64 (plcP tx ty c p).y, .int .i64 (plcP tx ty c p).z])) := by
 have HI := hd0 (fun w => image_c tx ty p h hp w)
 obtain ⟨i1, i2, i3⟩ := img_near h hp
 obtain ⟨j1, j2, j3⟩ := hc
 unfold plcP
 generalize imgP tx ty p = I at *
 clear h hp
 go_enter Tryz.func230, Tryz.ntmps230
 go_wp2_with fail
 go_at_call 254; refine (HI.out _).mono ?_; rintro e w' ⟨rfl, x1, rfl⟩
 go_wp2
 refine bodyPost_ret (v := .agg #[.int .i64 (c.x + I.x), .int .i64 (c.y + I.y), .int .i64 (c.z + I.z)]) (by simp [results, Tryz.results230, go_sem]) rfl ?_
 exact Ret.of gro

structure FPathA (w : World) (tx ty : Int) (c : Pt) (l : List Pt) (g3 g4 base k : Nat) (v : Value) (wr : World) : Prop where
 below : Below w.heap.size w wr
 turn : Blk wr g3 #[.int .i64 tx, .int .i64 ty] 116
 at0 : Blk wr g4 #[.int .i64 c.x, .int .i64 c.y, .int .i64 c.z] 38
 row : wr.ownsRow base 38 3 v k (ptCells ((l.take k).map (plcP tx ty c)))
theorem FPathA.step {w : World} {tx ty : Int} {c : Pt} {l : List Pt} {g3 g4 base k : Nat} {v : Value} {wr : World} (h : FPathA w tx ty c l g3 g4 base k v wr) (h3 : g3 < base) (h4 : g4 < base) (hb : w.heap.size ≤ base) (o : Obj) (y : World) (o2 : Obj)
  (hk : k < l.length) (p : Pt) (hp : l[k] = p) {v' : Value} {w' : World} (hown : w'.ownsRow base 38 3 v' (k + 1) (ptCells ((l.take k).map (plcP tx ty c)) ++ ptCells [plcP tx ty c p])) (hg : ((ext (wr.alloc o) y).alloc o2).grownBy w' v.ownBlock) : FPathA w tx ty c l g3 g4 base (k + 1) v' w' := by
 have s1 : w.heap.size ≤ wr.heap.size := h.below.size
 have hrow : ∀ k, v.ownBlock = some k → w.heap.size ≤ k := fun k e => by have := (h.row.lt k e).1; omega
 have r4 : some g4 ≠ v.ownBlock := own_base_ne h.row h4
 have r3 : some g3 ≠ v.ownBlock := own_base_ne h.row h3
 subst hp
 refine ⟨?_, (((h.turn.alloc o).ext y).alloc o2).grown hg r3, (((h.at0.alloc o).ext y).alloc o2).grown hg r4, ?_⟩
 ·have h1 : Below w.heap.size w ((ext (wr.alloc o) y).alloc o2) := (grow_alloc _ (grow_ext _ (h.below.alloc s1 _)))
  exact h1.grown hg (by simp only [World.size_alloc, size_ext]; omega) hrow
 ·rw [List.take_succ_eq_append_getElem hk, List.map_append, ptCells_append]; exact hown

set_option maxRecDepth 100000 in
set_option maxHeartbeats 4000000 in
theorem framePathAt_c (tx ty : Int) (c : Pt) (l : List Pt) (v : Value) (h : turnB tx ty = true) (hc : NearP c 1048576) (hn : ∀ p ∈ l, NearP p 1048576) (hlen : l.length ≤ 1000) (w : World) (hl : Pts w v l) :
  Calls Tryz.prog 184 #[.agg #[.int .i64 tx, .int .i64 ty], .agg #[.int .i64 c.x, .int .i64 c.y, .int .i64 c.z], v] w (fun e W => ∃ v', e = .returned (.tuple #[v', .int .i64 0]) ∧ W.ownsRow w.heap.size 38 3 v' (l.map (plcP tx ty c)).length (ptCells (l.map (plcP tx ty c))) ∧ ∃ x, W = ext w x) := by
 have HV := hd0 (fun w => frameValid_v tx ty true h w)
 have HN := hd0 (fun w hl => near_v l v true (by rw [List.all_eq_true]; exact fun p hp => near_iff.2 (hn p hp)) w hl)
 have HZ := hd0 (fun v w hl => near_v [c] v true (by rw [List.all_eq_true]; intro p hp; rw [List.mem_singleton.1 hp]; exact near_iff.2 hc) w hl)
 have HP := hd0 (fun p hp w => placedAt_c tx ty c p h hc (hn p hp) w)
 have HL := hd0 hl
 obtain ⟨a, cap, rfl, h2, h3, h4⟩ := hl.shape
 have H4 := hd0 h4
 clear h hc hn hl h4
 have d1 : decide ((1000 : Int) < (l.length : Int)) = false := by simp; omega
 go_enter Tryz.func184, Tryz.ntmps184
 go_wp2_with fail
 go_at_call 192; refine (HV.out _).mono ?_; rintro e w' ⟨rfl, x1, rfl⟩
 go_wp2_with fail
 go_at_call 229; refine (HZ.out _ _ ?_).mono ?_
 ·refine ⟨_, 1, rfl, by simp, by decide, fun i hi => ?_⟩
  obtain rfl : i = 0 := by simp at hi; omega
  refine ⟨_, 0, rfl, ?_, ?_, ?_⟩ <;> simp [go_sem]
 rintro e w' ⟨rfl, x2, rfl⟩
 go_wp2_with fail
 go_at_call 229; refine (HN.out _ (HL.out.below gro)).mono ?_; rintro e w' ⟨rfl, x3, rfl⟩
 go_wp2_with fail
 refine world_mask (fun W => FPathA w tx ty c l w.heap.size (w.heap.size + 1) (w.heap.size + 2) 0 (.slice none 0 0) W ∧ w.heap.size + 2 ≤ W.heap.size) _ ⟨⟨gro, ?_, ?_, World.ownsRow_nil _ _ _ _⟩, ?_⟩ ?_
 ·exact Blk.ext (Blk.ext (Blk.alloc (Blk.ext (Blk.alloc (Blk.new' rfl _ _) _) _) _) _) _
 ·exact Blk.ext (Blk.ext (Blk.alloc (Blk.ext (Blk.new' (by simp) _ _) _) _) _) _
 ·simp only [size_ext, World.size_alloc]; omega
 rintro W1 ⟨J0, hW1⟩
 go_loopw [8, 31] (fun v i wr => ∃ k : Nat, k ≤ l.length ∧ i = .int .i64 k ∧ FPathA w tx ty c l w.heap.size (w.heap.size + 1) (w.heap.size + 2) k v wr ∧ w.heap.size + 2 ≤ wr.heap.size) (fun _ i _ => l.length - (intOf i).toNat)
 case atStart => exact ⟨0, by omega, rfl, J0, hW1⟩
 case round =>
  clear J0 hW1
  obtain ⟨k, hk, rfl, J, hsz⟩ := hrel
  have HJ := hd0 J
  have HSZ := hd0 hsz
  obtain ⟨av, cv, rfl, hv1, hv2, _⟩ := own_shape J.row
  have hv3 : cv ≤ 9223372036854775807 := hv2
  by_cases hlt : k < l.length
  ·have q1 : (0 : Int) ≤ (k : Int) := by omega
   have q2 : (k : Int) < (l.length : Int) := by omega
   obtain ⟨b, off, ea, hpt⟩ := H4.out k hlt
   obtain ⟨y, ey⟩ := ext_of J.below
   have hpt2 := hpt.ext y
   rw [← ey] at hpt2
   obtain ⟨k0, k1, k2⟩ := hpt2
   subst ea
   have hc := fun w => HP.out _ (List.getElem_mem hlt) w
   obtain ⟨p, hp⟩ : ∃ p, l[k] = p := ⟨_, rfl⟩
   rw [hp] at k0 k1 k2 hc
   have HC := hd0 hc
   have HPK := hd0 hp
   have t0 : wr.cell? ⟨w.heap.size, 0, none⟩ = some (.int .i64 tx) := J.turn.cell 0
   have t1 : wr.cell? ⟨w.heap.size, 1, none⟩ = some (.int .i64 ty) := J.turn.cell 1
   have a0 : wr.cell? ⟨w.heap.size + 1, 0, none⟩ = some (.int .i64 c.x) := J.at0.cell 0
   have a1 : wr.cell? ⟨w.heap.size + 1, 1, none⟩ = some (.int .i64 c.y) := J.at0.cell 1
   have a2 : wr.cell? ⟨w.heap.size + 1, 2, none⟩ = some (.int .i64 c.z) := J.at0.cell 2
   clear J hpt ey hc hp
   obtain ⟨I, hI⟩ : ∃ I, plcP tx ty c p = I := ⟨_, rfl⟩
   rw [hI] at HC
   have HI := hd0 hI
   clear hI
   go_wp2_with fail
   go_at_call 230; refine (HC.out _).mono ?_; rintro e w' ⟨rfl, y2, rfl⟩
   go_wp2_with (at_builtin; refine app_own_b rfl _ _ 207 rfl 38 (.agg #[.int .i64 0, .int .i64 0, .int .i64 0]) 3 24 Tryz.underlying207 info_pt rfl (by decide) (w.heap.size + 2) (.slice av k cv) (k) (ptCells ((l.take k).map (plcP tx ty c))) _ rfl ((own_ext (HJ.out.row.alloc _) _).alloc _) _ 1 1 (ptCells [I]) rfl rfl (cells_new ?_ _ _ _ rfl) (ptCells_one _) (by omega) (by decide) ?_ ?_; (first | rfl | simp [size_ext]); (have := HSZ.out; simp only [World.size_alloc, size_ext]; omega); intro v' w1 hown' hgrow; have HO2 := hd0 hown'; obtain ⟨a', c', rfl, _, hc2, -⟩ := own_shape hown'; have hc3 : c' ≤ 9223372036854775807 := hc2; have HGR := hd0 hgrow; clear hown' hgrow hc2)
   go_roundw
   case rel => exact ⟨k + 1, by omega, by go_num, HJ.out.step (by omega) (by omega) (by omega) _ _ _ hlt p HPK.out (by rw [HI.out]; exact HO2.out) HGR.out, by have := HGR.out.size; have := HSZ.out; simp only [World.size_alloc, size_ext] at *; omega⟩
   case measure => simp [intOf]; omega
  ·obtain rfl : k = l.length := by omega
   clear J
   go_wp2
   go_ret2
   exact ⟨_, rfl, by have := HJ.out.row; rw [List.take_length] at this; rw [List.length_map]; exact own_mono this (by omega), ext_of HJ.out.below⟩

end Go.Proofs.YtkjljneehgmmaaaGreat

namespace Go.Proofs.YtkjljneehgmmaaaGreat
set_option linter.unusedVariables false
set_option linter.unusedSimpArgs false

def atF (l : List (Int × Int)) (a x : Int) : Int := l.foldl (fun acc s => if s.1 ≤ x then s.2 else acc) a
def atS (l : List (Int × Int)) (x : Int) : Int := atF l 0 x
theorem atF_cons (s : Int × Int) (l : List (Int × Int)) (a x : Int) : atF (s :: l) a x = atF l (if s.1 ≤ x then s.2 else a) x := rfl
theorem atF_append (l m : List (Int × Int)) (a x : Int) : atF (l ++ m) a x = atF m (atF l a x) x := by unfold atF; rw [List.foldl_append]
theorem atF_none {l : List (Int × Int)} {x : Int} (h : ∀ s ∈ l, x < s.1) (a : Int) : atF l a x = a := by
 induction l generalizing a with
 | nil => rfl
 | cons s l ih =>
   rw [atF_cons, if_neg (by have := h s List.mem_cons_self; omega)]
   exact ih (fun s hs => h s (List.mem_cons_of_mem _ hs)) a
theorem atF_same {l : List (Int × Int)} {q p : Int} (h : ∀ s ∈ l, (s.1 ≤ p ↔ s.1 ≤ q)) (a : Int) : atF l a p = atF l a q := by
 induction l generalizing a with
 | nil => rfl
 | cons s l ih =>
   rw [atF_cons, atF_cons]
   have e := h s List.mem_cons_self
   by_cases h1 : s.1 ≤ q
   ·rw [if_pos h1, if_pos (e.2 h1)]
    exact ih (fun s hs => h s (List.mem_cons_of_mem _ hs)) _
   ·rw [if_neg h1, if_neg (fun h2 => h1 (e.1 h2))]
    exact ih (fun s hs => h s (List.mem_cons_of_mem _ hs)) _
theorem atF_at {l : List (Int × Int)} {x : Int} {k : Nat} (hk : k < l.length) (h1 : ∀ j (h : j < l.length), j ≤ k → l[j].1 ≤ x) (h2 : ∀ j (h : j < l.length), k < j → x < l[j].1) (a : Int) : atF l a x = l[k].2 := by
 have e : l = l.take k ++ l[k] :: l.drop (k + 1) := by simp
 have h3 : ∀ s ∈ l.drop (k + 1), x < s.1 := fun s hs => by
  obtain ⟨j, hj, rfl⟩ := List.getElem_of_mem hs
  rw [List.getElem_drop]
  exact h2 _ _ (by omega)
 generalize hl : l[k] = s at e
 have h4 : s.1 ≤ x := by rw [← hl]; exact h1 k hk (Nat.le_refl _)
 rw [e, atF_append, atF_cons, if_pos h4]
 exact atF_none h3 _

structure Ch where
 bars : List Int
 lo : Int
 hi : Int
 is : Bool
 area : Int
def valueI (l : List Ch) (p : Int) : Int := l.foldl (fun n c => if c.lo ≤ p ∧ p < c.hi then n + c.area else n) 0
def valF (l : List Ch) (a p : Int) : Int := l.foldl (fun n c => if c.lo ≤ p ∧ p < c.hi then n + c.area else n) a
theorem valF_same {l : List Ch} {q p : Int} (h : ∀ c ∈ l, (c.lo ≤ p ↔ c.lo ≤ q) ∧ (c.hi ≤ p ↔ c.hi ≤ q)) (a : Int) : valF l a p = valF l a q := by
 induction l generalizing a with
 | nil => rfl
 | cons c l ih =>
   have e := h c List.mem_cons_self
   have e2 : (c.lo ≤ p ∧ p < c.hi) ↔ (c.lo ≤ q ∧ q < c.hi) := by omega
   show valF l (if c.lo ≤ p ∧ p < c.hi then a + c.area else a) p = valF l (if c.lo ≤ q ∧ q < c.hi then a + c.area else a) q
   by_cases h1 : c.lo ≤ q ∧ q < c.hi
   ·rw [if_pos h1, if_pos (e2.2 h1)]
    exact ih (fun s hs => h s (List.mem_cons_of_mem _ hs)) _
   ·rw [if_neg h1, if_neg (fun h2 => h1 (e2.1 h2))]
    exact ih (fun s hs => h s (List.mem_cons_of_mem _ hs)) _
theorem valF_none {l : List Ch} {p : Int} (h : ∀ c ∈ l, p < c.lo) (a : Int) : valF l a p = a := by
 induction l generalizing a with
 | nil => rfl
 | cons c l ih =>
   show valF l (if c.lo ≤ p ∧ p < c.hi then a + c.area else a) p = a
   rw [if_neg (by have := h c List.mem_cons_self; omega)]
   exact ih (fun s hs => h s (List.mem_cons_of_mem _ hs)) a
def stepsF (f : Int → Int) : List Int → Int → List (Int × Int)
 | [], _ => []
 | p :: ps, last => if f p ≠ last then (p, f p) :: stepsF f ps (f p) else stepsF f ps last
theorem stepsF_mem {f : Int → Int} {ps : List Int} {last : Int} {s : Int × Int} (h : s ∈ stepsF f ps last) : s.1 ∈ ps ∧ s.2 = f s.1 := by
 induction ps generalizing last with
 | nil => cases h
 | cons p ps ih =>
   unfold stepsF at h
   split at h
   ·rcases List.mem_cons.1 h with rfl | h
    ·exact ⟨List.mem_cons_self, rfl⟩
    ·exact ⟨List.mem_cons_of_mem _ (ih h).1, (ih h).2⟩
   ·exact ⟨List.mem_cons_of_mem _ (ih h).1, (ih h).2⟩
theorem stepsF_len (f : Int → Int) (ps : List Int) (last : Int) : (stepsF f ps last).length ≤ ps.length := by
 induction ps generalizing last with
 | nil => exact Nat.le_refl _
 | cons p ps ih =>
   unfold stepsF
   split
   ·have := ih (f p); simp; omega
   ·have := ih last; simp; omega
theorem stepsF_at {f : Int → Int} {ps : List Int} (hs : ps.Pairwise (· < ·)) (last x : Int) : atF (stepsF f ps last) last x = atF (ps.map fun p => (p, f p)) last x := by
 induction ps generalizing last with
 | nil => rfl
 | cons p ps ih =>
   have h1 := List.pairwise_cons.1 hs
   unfold stepsF
   rw [List.map_cons, atF_cons]
   by_cases hp : p ≤ x
   ·rw [if_pos hp]
    split
    ·rw [atF_cons, if_pos hp]; exact ih h1.2 _
    ·rename_i e
     have e' : f p = last := by simpa using e
     rw [show ((p, f p) : Int × Int).2 = last from e']; exact ih h1.2 _
   ·rw [if_neg hp]
    have hq : ∀ q ∈ ps, x < q := fun q hq => by have := h1.1 q hq; omega
    have hn : atF (ps.map fun p => (p, f p)) last x = last := atF_none (fun s hs => by
     obtain ⟨q, hq2, rfl⟩ := List.mem_map.1 hs
     exact hq q hq2) _
    rw [hn]
    refine atF_none (fun s hs => ?_) _
    split at hs
    ·rcases List.mem_cons.1 hs with rfl | hs
     ·show x < p; omega
     ·exact hq _ (stepsF_mem hs).1
    ·exact hq _ (stepsF_mem hs).1
theorem map_at {f : Int → Int} {ps : List Int} (hs : ps.Pairwise (· < ·)) {x : Int} (h0 : (∀ p ∈ ps, x < p) → f x = 0) (hc : ∀ p ∈ ps, p ≤ x → (∀ q ∈ ps, q ≤ x → q ≤ p) → f x = f p) : atF (ps.map fun p => (p, f p)) 0 x = f x := by
 by_cases hx : ∀ p ∈ ps, x < p
 ·rw [h0 hx]
  refine atF_none (fun s hs => ?_) _
  obtain ⟨q, hq, rfl⟩ := List.mem_map.1 hs
  exact hx q hq
 ·-- the last place that is not beyond x
  have : ∃ k, ∃ h : k < ps.length, ps[k] ≤ x ∧ ∀ j (hj : j < ps.length), k < j → x < ps[j] := by
   clear h0 hc
   induction ps with
   | nil => exact absurd (fun p hp => by cases hp) hx
   | cons p ps ih =>
     have h1 := List.pairwise_cons.1 hs
     by_cases h2 : ∀ q ∈ ps, x < q
     ·have h3 : p ≤ x := by
       rcases Int.lt_or_le x p with h | h
       ·exact absurd (fun q hq => by rcases List.mem_cons.1 hq with rfl | hq; exact h; exact h2 q hq) hx
       ·exact h
      refine ⟨0, by simp, h3, fun j hj hj2 => ?_⟩
      obtain ⟨j, rfl⟩ : ∃ i, j = i + 1 := ⟨j - 1, by omega⟩
      rw [List.getElem_cons_succ]
      exact h2 _ (List.getElem_mem _)
     ·obtain ⟨k, hk, h3, h4⟩ := ih h1.2 h2
      refine ⟨k + 1, by simp; omega, by simpa using h3, fun j hj hj2 => ?_⟩
      obtain ⟨j, rfl⟩ : ∃ i, j = i + 1 := ⟨j - 1, by omega⟩
      rw [List.getElem_cons_succ]
      exact h4 j _ (by omega)
  obtain ⟨k, hk, h1, h2⟩ := this
  have hm : ∀ i j (hi : i < ps.length) (hj : j < ps.length), i < j → ps[i] < ps[j] := fun i j hi hj h => List.pairwise_iff_getElem.1 hs i j hi hj h
  have hle : ∀ j (hj : j < ps.length), j ≤ k → ps[j] ≤ x := fun j hj h => by
   rcases Nat.lt_or_ge j k with h3 | h3
   ·have := hm j k hj hk h3; omega
   ·have : j = k := by omega
    subst this; exact h1
  rw [atF_at (k := k) (by simpa using hk) (fun j hj h => by simpa using hle j (by simpa using hj) h) (fun j hj h => by simpa using h2 j (by simpa using hj) h)]
  simp only [List.getElem_map]
  symm
  refine hc _ (List.getElem_mem hk) h1 (fun q hq hqx => ?_)
  obtain ⟨j, hj, rfl⟩ := List.getElem_of_mem hq
  rcases Nat.lt_or_ge k j with h3 | h3
  ·have := h2 j hj h3; omega
  ·rcases Nat.lt_or_ge j k with h4 | h4
   ·exact Int.le_of_lt (hm j k hj hk h4)
   ·have : j = k := by omega
    subst this; exact Int.le_refl _
def placesI (l : List Ch) : List Int := l.flatMap fun c => [c.lo, c.hi]
def supS (l : List Ch) : List (Int × Int) := stepsF (valueI l) (cutsL (placesI l)) 0
theorem supS_at {l : List Ch} (hl : ∀ c ∈ l, c.lo < c.hi) (x : Int) : atS (supS l) x = valueI l x := by
 obtain ⟨hm, hs⟩ := cutsL_spec (placesI l)
 have hlo : ∀ c ∈ l, c.lo ∈ cutsL (placesI l) := fun c hc => (hm _).2 (List.mem_flatMap.2 ⟨c, hc, by simp⟩)
 have hhi : ∀ c ∈ l, c.hi ∈ cutsL (placesI l) := fun c hc => (hm _).2 (List.mem_flatMap.2 ⟨c, hc, by simp⟩)
 unfold atS supS
 rw [stepsF_at hs, map_at hs]
 ·intro h
  exact valF_none (fun c hc => h _ (hlo c hc)) 0
 ·intro p hp hpx hmax
  refine valF_same (fun c hc => ⟨⟨fun h => ?_, fun h => by omega⟩, ⟨fun h => ?_, fun h => by omega⟩⟩) 0
  ·exact hmax _ (hlo c hc) h
  ·exact hmax _ (hhi c hc) h
def shortF : List (Int × Int) → Int → List (Int × Int)
 | [], _ => []
 | s :: l, last => if s.2 ≠ last then s :: shortF l s.2 else shortF l s.2
theorem shortF_steps (f : Int → Int) (ps : List Int) (last : Int) : shortF (stepsF f ps last) last = stepsF f ps last := by
 induction ps generalizing last with
 | nil => rfl
 | cons p ps ih =>
   unfold stepsF
   split
   ·rename_i e
    unfold shortF
    rw [if_pos e]
    exact congrArg _ (ih (f p))
   ·exact ih last
theorem last_place {ps : List Int} {x : Int} (hx : ¬ ∀ p ∈ ps, x < p) : ∃ p ∈ ps, p ≤ x ∧ ∀ q ∈ ps, q ≤ x → q ≤ p := by
 induction ps with
 | nil => exact absurd (fun p hp => by cases hp) hx
 | cons a ps ih =>
   by_cases h2 : ∀ q ∈ ps, x < q
   ·have h3 : a ≤ x := by
     rcases Int.lt_or_le x a with h | h
     ·exact absurd (fun q hq => by rcases List.mem_cons.1 hq with rfl | hq; exact h; exact h2 q hq) hx
     ·exact h
    refine ⟨a, List.mem_cons_self, h3, fun q hq hqx => ?_⟩
    rcases List.mem_cons.1 hq with rfl | hq
    ·exact Int.le_refl _
    ·have := h2 q hq; omega
   ·obtain ⟨p, hp, h3, h4⟩ := ih h2
    by_cases ha : a ≤ x ∧ p < a
    ·refine ⟨a, List.mem_cons_self, ha.1, fun q hq hqx => ?_⟩
     rcases List.mem_cons.1 hq with rfl | hq
     ·exact Int.le_refl _
     ·have := h4 q hq hqx; omega
    ·refine ⟨p, List.mem_cons_of_mem _ hp, h3, fun q hq hqx => ?_⟩
     rcases List.mem_cons.1 hq with rfl | hq
     ·omega
     ·exact h4 q hq hqx
def placesS (s d : List (Int × Int)) : List Int := cutsL ((s ++ d).map (·.1))
def failB (s d : List (Int × Int)) (p : Int) : Bool := decide (atS s p < atS d p)
def firstF (s d : List (Int × Int)) : Option Int := (placesS s d).find? (failB s d)
theorem enough_of {s d : List (Int × Int)} {x : Int} (h : ∀ p ∈ placesS s d, p ≤ x → failB s d p = false) : atS d x ≤ atS s x := by
 obtain ⟨hm, -⟩ := cutsL_spec ((s ++ d).map (·.1))
 have hs : ∀ q ∈ s, q.1 ∈ placesS s d := fun q hq => (hm _).2 (List.mem_map.2 ⟨q, List.mem_append_left _ hq, rfl⟩)
 have hd : ∀ q ∈ d, q.1 ∈ placesS s d := fun q hq => (hm _).2 (List.mem_map.2 ⟨q, List.mem_append_right _ hq, rfl⟩)
 by_cases hx : ∀ p ∈ placesS s d, x < p
 ·unfold atS
  rw [atF_none (fun q hq => hx _ (hs q hq)), atF_none (fun q hq => hx _ (hd q hq))]
  exact Int.le_refl _
 ·obtain ⟨p, hp, h1, h2⟩ := last_place hx
  have h3 := h p hp h1
  unfold failB at h3
  rw [decide_eq_false_iff_not] at h3
  have e1 : atS s x = atS s p := atF_same (fun q hq => ⟨fun e => h2 _ (hs q hq) e, fun e => by omega⟩) 0
  have e2 : atS d x = atS d p := atF_same (fun q hq => ⟨fun e => h2 _ (hd q hq) e, fun e => by omega⟩) 0
  omega
theorem firstF_none {s d : List (Int × Int)} (h : firstF s d = none) (x : Int) : atS d x ≤ atS s x := by
 refine enough_of (fun p hp _ => ?_)
 have := List.find?_eq_none.1 h p hp
 simpa using this
theorem firstF_some {s d : List (Int × Int)} {q : Int} (h : firstF s d = some q) : atS s q < atS d q ∧ ∀ x, x < q → atS d x ≤ atS s x := by
 obtain ⟨hf, l1, l2, hl, hn⟩ := List.find?_eq_some_iff_append.1 h
 refine ⟨by simpa [failB] using hf, fun x hx => enough_of (fun p hp hpx => ?_)⟩
 obtain ⟨-, hs⟩ := cutsL_spec ((s ++ d).map (·.1))
 change (placesS s d).Pairwise (· < ·) at hs
 rw [hl] at hs hp
 rcases List.mem_append.1 hp with h1 | h1
 ·simpa using hn p h1
 ·rcases List.mem_cons.1 h1 with rfl | h1
  ·omega
  ·have := (List.pairwise_cons.1 (List.pairwise_append.1 hs).2.1).1 p h1; omega
end Go.Proofs.YtkjljneehgmmaaaGreat


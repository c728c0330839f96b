/- GapK1, TsI, Search, PlainK1, CovK, Fds, SolK3, SolK4, RefCovK in one text. -/
import Derived.Test.YtkjljneehgmmaaaGreatAaK6
import Derived.Test.YtkjljneehgmmaaaGreatNameK
import Derived.Test.YtkjljneehgmmaaaGreatAaK1
import Derived.Test.YtkjljneehgmmaaaGreatLaidK4
import Derived.Test.YtkjljneehgmmaaaGreatAaK4
import Derived.Deep.DeepCutAuto
import Derived.Test.YtkjljneehgmmaaaGreatBoxK
import Derived.Test.YtkjljneehgmmaaaGreatAaK5
import Derived.Test.YtkjljneehgmmaaaGreatExtK
import Derived.BigRegion
import Derived.RegionTactic
import Derived.Deep.CutBlock
import Derived.IntWalk
import Derived.RangeFuncBox
import Derived.Deep.RegionHeld3
namespace Go.Proofs.YtkjljneehgmmaaaGreat
set_option linter.unusedVariables false
set_option linter.unusedSimpArgs false
open Go.RowKit
set_option maxRecDepth 20000
set_option maxHeartbeats 1000000

theorem run_max_int4 {P : Program} (w : World) (ts : Array TypeId) (t : TypeId) (k k' k'' k3 : IntKind) (x y z u : Int) : (Builtin.max_ ts t #[.int k x, .int k' y, .int k'' z, .int k3 u]).run P w = .ok (.int k (max x (max y (max z u)))) w := by
 simp [Builtin.max_, Builtin.max2]; omega
attribute [local go_sem] run_max_int4
end Go.Proofs.YtkjljneehgmmaaaGreat

namespace Go.Proofs.YtkjljneehgmmaaaGreat
set_option linter.unusedVariables false
set_option linter.unusedSimpArgs false
open Go.RowKit
set_option maxRecDepth 20000

def markI (rs : List Rn) (i : Int) : ByteArray := match placeR rs i with | some (r, _) => r.mark | none => ⟨#[]⟩
def sizeI (l : List Br) (rs : List Rn) (i : Int) : Int := (barOf l (markI rs i)).size
theorem mark_of {l : List Br} {rs : List Rn} (h : laidB l rs = true) {i : Int} (h0 : 0 ≤ i) (hi : i < countS rs) : markE l rs i = (markI rs i, 0) ∧ 0 ≤ findI l (markI rs i) ∧ (∃ r ∈ rs, r.mark = markI rs i) := by
 obtain ⟨r, j, e, hm, _, _⟩ := placeR_some (laidB_iff.1 h).2.2.1 h0 hi
 have hb := (laidB_iff.1 h).2.2.1 r hm
 have hk : markI rs i = r.mark := by unfold markI; rw [e]
 refine ⟨?_, ?_, r, hm, hk.symm⟩
 ·unfold markE; rw [if_pos h, if_neg (by omega), e, hk]
 ·rw [hk]
  rw [runB_eq] at hb
  simp only [right1, Bool.and_eq_true, decide_eq_true_iff] at hb
  exact hb.1.1
theorem size_of {l : List Br} {rs : List Rn} (h : laidB l rs = true) {i : Int} (h0 : 0 ≤ i) (hi : i < countS rs) : sizeB (sizeI l rs i) = true := by
 unfold sizeI
 exact (shape_facts (schedB_shape (laidB_iff.1 h).1 _ (bar_mem (mark_of h h0 hi).2.1))).2.2.1
theorem legB_near {p q : Pt} (hp : NearP p 1048576) (hq : NearP q 1048576) : validB (legB p q) = true := by
 obtain ⟨p1, p2, p3⟩ := hp
 obtain ⟨q1, q2, q3⟩ := hq
 rw [valid_iff]; unfold legB; simp only; omega
theorem legsP_valid {l : List Pt} (h : ∀ p ∈ l, NearP p 1048576) : ∀ b ∈ legsP l, validB b = true := by
 induction l with
 | nil => intro b hb; cases hb
 | cons a l ih =>
   cases l with
   | nil => intro b hb; cases hb
   | cons c l =>
     intro b hb
     simp only [legsP] at hb
     rcases List.mem_cons.1 hb with rfl | hb
     ·exact legB_near (h a List.mem_cons_self) (h c (List.mem_cons_of_mem _ List.mem_cons_self))
     ·exact ih (fun p hp => h p (List.mem_cons_of_mem _ hp)) b hb
theorem legsI_valid {l : List Br} {rs : List Rn} (h : laidB l rs = true) {i : Int} (h0 : 0 ≤ i) (hi : i < countS rs) : ∀ b ∈ legsI l rs i, validB b = true := legsP_valid (pathI_near h h0 hi)


def mainI (l : List Br) (rs : List Rn) (i : Int) : Option Bx := (legsI l rs i).find? mainB
structure Mn where
 leg : Bx
 has : Bool
 size : Int
 mark : ByteArray
def mnOf (o : Option Bx) (d : Int) (m : ByteArray) : Mn := ⟨o.getD ⟨0, 0, 0, 0, 0, 0⟩, o.isSome, d, m⟩
def mnI (l : List Br) (rs : List Rn) (i : Int) : Mn := mnOf (mainI l rs i) (sizeI l rs i) (markI rs i)
def mn1 (m : Mn) : List Value := [.int .i64 m.leg.lx, .int .i64 m.leg.ly, .int .i64 m.leg.lz, .int .i64 m.leg.hx, .int .i64 m.leg.hy, .int .i64 m.leg.hz, .bool m.has, .int .i64 m.size, .string m.mark]
def mnCells (l : List Mn) : List Value := l.flatMap mn1
def mainsTo (l : List Br) (rs : List Rn) (n : Nat) : List Mn := (List.range n).map fun i : Nat => mnI l rs i
theorem mainsTo_succ (l : List Br) (rs : List Rn) (n : Nat) : mainsTo l rs (n + 1) = mainsTo l rs n ++ [mnI l rs n] := by simp [mainsTo, List.range_succ]
theorem mnCells_app (a b : List Mn) : mnCells (a ++ b) = mnCells a ++ mnCells b := by unfold mnCells; rw [List.flatMap_append]
theorem mn1_one (m : Mn) : ∀ u ∈ mn1 m, u.oneCell' = true := by
 intro u hu
 unfold mn1 at hu
 simp only [List.mem_cons, List.not_mem_nil, or_false] at hu
 rcases hu with rfl | rfl | rfl | rfl | rfl | rfl | rfl | rfl | rfl <;> rfl
theorem info_mn : (Tryz.prog.info? 228).map (fun i => (i.zero, i.size, i.bytes)) = some (some (.agg #[.int .i64 0, .int .i64 0, .int .i64 0, .int .i64 0, .int .i64 0, .int .i64 0, .bool false, .int .i64 0, .string ⟨#[]⟩]), 9, 80) := by kernel_rfl
structure MnJ (w : World) (x : Dt) (m : Nat) (v : Value) (wr : World) : Prop where
 below : Below w.heap.size w wr
 dt : Blk wr w.heap.size (dtC x) 34
 row : wr.ownsRow w.heap.size 228 9 v m (mnCells (mainsTo x.l x.rs m))
theorem own_grows {w w' : World} {base s n : Nat} {e : TypeId} {v : Value} {xs : List Value} (h : w.ownsRow base e s v n xs) (hb : Below w.heap.size w w') : w'.ownsRow base e s v n xs := by
 obtain ⟨y, rfl⟩ := ext_of hb
 exact own_ext h y
theorem MnJ.grows {w : World} {x : Dt} {m : Nat} {v : Value} {W W' : World} (h : MnJ w x m v W) (hb : Below W.heap.size W W') : MnJ w x m v W' := ⟨h.below.trans (Below.mono hb h.below.size), h.dt.below hb, own_grows h.row hb⟩
theorem MnJ.app {w : World} {x : Dt} {m : Nat} {v : Value} {W W' : World} (h : MnJ w x m v W) {v' : Value} (hown : W'.ownsRow w.heap.size 228 9 v' (m + 1) (mnCells (mainsTo x.l x.rs m) ++ mn1 (mnI x.l x.rs m))) (hg : W.grownBy W' v.ownBlock) : MnJ w x (m + 1) v' W' := by
 refine ⟨h.below.grown hg h.below.size (fun j e => (h.row.lt j e).1), h.dt.grown hg (h.dt.ne_row h.row (by decide)), ?_⟩
 rw [mainsTo_succ, mnCells_app]
 simpa [mnCells] using hown
theorem main_two (p q : Pt) : mainB (legB p q) = ((p.x != q.x) && ((p.y == q.y) && (p.z == q.z))) := by
 unfold mainB legB
 rw [Bool.eq_iff_iff]
 simp only [Bool.and_eq_true, decide_eq_true_eq, bne_iff_ne, beq_iff_eq, ne_eq]
 omega
theorem leg_two {p q : Pt} (h : mainB (legB p q) = true) : legB p q = ⟨min p.x q.x, p.y, p.z, max p.x q.x, p.y, p.z⟩ := by
 unfold mainB at h
 simp only [Bool.and_eq_true, decide_eq_true_eq] at h
 unfold legB at *
 simp only at h
 congr 1 <;> omega
theorem plc_laid (r : Rn) (j : Int) (p : Pt) : plcP r.tx r.ty ⟨r.ax + j * r.sx, r.ay + j * r.sy, r.az + j * r.sz⟩ p = laidP r j p := by
 unfold plcP laidP
 simp only [Pt.mk.injEq]
 omega
theorem run_facts {l : List Br} {r : Rn} (h : runB l r = true) : 0 ≤ findI l r.mark ∧ turnB r.tx r.ty = true ∧ 1 ≤ r.count ∧ r.count ≤ 1000 ∧ NearP ⟨r.ax, r.ay, r.az⟩ 1048576 := by
 unfold runB rightR at h
 simp only [Bool.and_eq_true, decide_eq_true_eq] at h
 exact ⟨h.1, h.2.1, h.2.2.1, h.2.2.2.1, near_iff.1 h.2.2.2.2.1⟩
theorem path_at {l : List Br} {rs : List Rn} (h : laidB l rs = true) {k : Nat} (hk : k < rs.length) {j : Int} (h0 : 0 ≤ j) (hj : j < (rs[k]).count) :
  placeR rs (countS (rs.take k) + j) = some (rs[k], j) := by
 rw [place_take (fun r hr => (run_facts ((laidB_iff.1 h).2.2.1 r hr)).2.2.1) h0 k, List.drop_eq_getElem_cons hk]
 show (if j < (rs[k]).count then some (rs[k], j) else _) = _
 rw [if_pos hj]
theorem schedFind_c (l : List Br) (v : Value) (m : ByteArray) (hs : schedB l = true) (hk : 0 ≤ findI l m) (w : World) (hl : Bars w v l) : Calls Tryz.prog 182 #[v, .string m] w (Ret w (.tuple #[.int .i64 (findI l m), .int .i64 0])) := by
 have HV := hd0 (fun w hl => sched_v l v true hs w hl)
 have HX := hd0 (fun w hl => index_c l v m w hl)
 have HL := hd0 hl
 obtain ⟨a, cap, rfl, -, -, -⟩ := hl.shape
 have d1 : decide (findI l m < 0) = false := by simp; omega
 generalize findI l m = k at *
 clear hs hl hk
 go_enter Tryz.func182, Tryz.ntmps182
 go_wp2_with fail
 go_at_call 138; refine (HV.out _ (HL.out.below gro)).mono ?_; rintro e w' ⟨rfl, x1, rfl⟩
 go_wp2_with fail
 go_at_call 190; refine (HX.out _ (HL.out.below gro)).mono ?_; rintro e w' ⟨rfl, x2, rfl⟩
 go_wp2
 go_ret2
 exact Ret.of gro

set_option maxRecDepth 100000 in
set_option maxHeartbeats 1000000 in
theorem search_c (F : Nat) (hE : Enters F) (caps : Array Value) (n k : Nat) (p : Nat → Bool) (hn : n ≤ 1000000000) (hk : k ≤ n) (h1 : ∀ j, j < k → p j = false) (h2 : ∀ j, k ≤ j → j < n → p j = true) (w : World)
  (hf : ∀ (j : Nat) x, j < n → Calls Tryz.prog F (#[.int .i64 j] ++ caps) (ext w x) (Ret (ext w x) (.bool (p j)))) :
  Calls Tryz.prog 106 #[.int .i64 n, .func (.func F) #[] caps] w (Ret w (.int .i64 k)) := by
 have HF := hd0 hf
 have H1 := hd0 h1
 have H2 := hd0 h2
 clear hf h1 h2
 go_enter Tryz.func106, Tryz.ntmps106
 go_wp2
 go_loopw [5, 6] (fun i j wr => ∃ lo hi : Nat, lo ≤ k ∧ k ≤ hi ∧ hi ≤ n ∧ i = .int .i64 lo ∧ j = .int .i64 hi ∧ ∃ x, wr = ext w x) (fun i j _ => (intOf j).toNat - (intOf i).toNat)
 case atStart => exact ⟨0, n, Nat.zero_le _, hk, Nat.le_refl _, rfl, rfl, ext_of (Below.refl _ _)⟩
 case round =>
  obtain ⟨lo, hi, q1, q2, q3, rfl, rfl, x, rfl⟩ := hrel
  by_cases hlt : lo < hi
  ·have hc := HF.out ((lo + hi) / 2) x (by omega)
   rw [show (((lo + hi) / 2 : Nat) : Int) = ((lo : Int) + (hi : Int)) / 2 by omega] at hc
   have hg1 : (lo + hi) / 2 < hi := by omega
   have hg2 : lo ≤ (lo + hi) / 2 := by omega
   have hg3 := hd0 (show (((lo + hi) / 2 : Nat) : Int) = ((lo : Int) + (hi : Int)) / 2 by omega)
   cases hp : p ((lo + hi) / 2)
   ·rw [hp] at hc
    have HC := hd0 hc
    have hlk : (lo + hi) / 2 < k := by
     rcases Nat.lt_or_ge ((lo + hi) / 2) k with h | h
     ·exact h
     ·rw [H2.out _ h (by omega)] at hp; exact absurd hp.symm Bool.false_ne_true
    clear hp hc
    go_wp2_with fail
    rw [show ∀ (a : Array Value) (w : World), (callFunc F a).run Tryz.prog w = .ok (.enter F a) w from hE, Oper.upon_enter]
    refine HC.out.mono ?_
    rintro e w' ⟨rfl, y, rfl⟩
    go_wp2
    go_roundw
    case rel => exact ⟨(lo + hi) / 2 + 1, hi, by omega, q2, q3, by rw [Int.natCast_add, hg3.out]; rfl, rfl, _, ext_ext _ _ _⟩
    case measure => simp [intOf]; omega
   ·rw [hp] at hc
    have HC := hd0 hc
    have hlk : k ≤ (lo + hi) / 2 := by
     rcases Nat.lt_or_ge ((lo + hi) / 2) k with h | h
     ·rw [H1.out _ h] at hp; exact absurd hp Bool.false_ne_true
     ·exact h
    clear hp hc
    go_wp2_with fail
    rw [show ∀ (a : Array Value) (w : World), (callFunc F a).run Tryz.prog w = .ok (.enter F a) w from hE, Oper.upon_enter]
    refine HC.out.mono ?_
    rintro e w' ⟨rfl, y, rfl⟩
    go_wp2
    go_roundw
    case rel => exact ⟨lo, (lo + hi) / 2, q1, hlk, by omega, rfl, by rw [hg3.out], _, ext_ext _ _ _⟩
    case measure => simp [intOf]; omega
  ·obtain rfl : lo = k := by omega
   go_wp2
   go_ret
   exact Ret.of gro


def topN (p : Nat → Bool) : Nat → Nat
 | 0 => 0
 | n + 1 => if p n = true then n + 1 else topN p n
theorem topN_spec (p : Nat → Bool) (n : Nat) : topN p n ≤ n ∧ (0 < topN p n → p (topN p n - 1) = true) ∧ ∀ j, topN p n ≤ j → j < n → p j = false := by
 induction n with
 | zero => exact ⟨Nat.le_refl _, fun h => absurd h (Nat.not_lt_zero _), fun j _ h => absurd h (Nat.not_lt_zero _)⟩
 | succ n ih =>
   unfold topN
   split
   ·rename_i h
    exact ⟨Nat.le_refl _, fun _ => h, fun j h1 h2 => by omega⟩
   ·rename_i h
    obtain ⟨i1, i2, i3⟩ := ih
    refine ⟨by omega, i2, fun j h1 h2 => ?_⟩
    by_cases hj : j < n
    ·exact i3 j h1 hj
    ·obtain rfl : j = n := by omega
     simpa using h
def topC (p : Nat → Bool) : Int := (topN p 2097153 : Int) - 1
theorem topC_in (p : Nat → Bool) : -1 ≤ topC p ∧ topC p ≤ 2097152 := by
 have := (topN_spec p 2097153).1
 unfold topC; omega
theorem topC_ge {p : Nat → Bool} {c : Nat} (hc : c < 2097153) (h : p c = true) : (c : Int) ≤ topC p := by
 obtain ⟨i1, _, i3⟩ := topN_spec p 2097153
 unfold topC
 by_cases hj : topN p 2097153 ≤ c
 ·rw [i3 c hj hc] at h; exact absurd h Bool.false_ne_true
 ·omega
theorem topC_has {p : Nat → Bool} (h : 0 ≤ topC p) : p (topC p).toNat = true := by
 obtain ⟨_, i2, _⟩ := topN_spec p 2097153
 unfold topC at h ⊢
 have := i2 (by omega)
 rwa [show ((topN p 2097153 : Int) - 1).toNat = topN p 2097153 - 1 by omega]
theorem topC_none {p : Nat → Bool} (h : ∀ a b, a ≤ b → p b = true → p a = true) (h0 : p 0 = false) : topC p = -1 := by
 have h1 := topC_in p
 by_cases hc : 0 ≤ topC p
 ·have := h 0 _ (Nat.zero_le _) (topC_has hc)
  rw [h0] at this
  exact absurd this Bool.false_ne_true
 ·omega
def coverC (l m : List Bx) (b : Bx) : Int := topC fun c => containsS l m (grownX b c)
def Ordd (b : Bx) : Prop := b.lx ≤ b.hx ∧ b.ly ≤ b.hy ∧ b.lz ≤ b.hz
theorem grown_zero (b : Bx) : grownX b 0 = b := by simp only [grownX, Int.sub_zero, Int.add_zero]
theorem grown_le {b : Bx} (h : Ordd b) {a c : Nat} (hac : a ≤ c) : Ordd (grownX b a) ∧ Ordd (grownX b c) ∧ containsB (grownX b c) (grownX b a) = true := by
 unfold Ordd at h ⊢
 rw [contains_iff]; simp only [grownX]; omega
theorem cover_down {l m : List Bx} {b : Bx} (h : Ordd b) (a c : Nat) (hac : a ≤ c) (hc : containsS l m (grownX b c) = true) : containsS l m (grownX b a) = true := by
 obtain ⟨h1, h2, h3⟩ := grown_le h hac
 exact containsS_sub h2 h1 h3 hc
theorem cover_none {l m : List Bx} {b : Bx} (h : Ordd b) (h0 : containsS l m b = false) : coverC l m b = -1 :=
 topC_none (cover_down h) (by rw [Int.ofNat_zero, grown_zero]; exact h0)
theorem containsS_valid {l m : List Bx} {b : Bx} (hl : l.all thickB = true) (h : Ordd b) (hc : containsS l m b = true) : validB b = true := by
 obtain ⟨h1, h2, h3⟩ := h
 have hv := (covers_iff h1 h2 h3).1 (containsS_iff.1 hc).2
 obtain ⟨a, ha, ea⟩ := hv (2 * b.lx) (2 * b.ly) (2 * b.lz) ⟨by omega, by omega, by omega⟩
 obtain ⟨c, hc', ec⟩ := hv (2 * b.hx) (2 * b.hy) (2 * b.hz) ⟨by omega, by omega, by omega⟩
 have va := valid_iff.1 (thick_iff.1 (List.all_eq_true.1 hl a ha)).1
 have vc := valid_iff.1 (thick_iff.1 (List.all_eq_true.1 hl c hc')).1
 unfold inB at ea ec
 rw [valid_iff]
 omega

theorem contains_one (B : Bx) {b : Bx} (h : Ordd b) : containsS [B] [] b = containsB B b := by
 obtain ⟨h1, h2, h3⟩ := h
 rw [Bool.eq_iff_iff, containsS_iff, covers_iff h1 h2 h3, contains_iff]
 constructor
 ·rintro ⟨_, hc⟩
  obtain ⟨a, ha, ea⟩ := hc (2 * b.lx) (2 * b.ly) (2 * b.lz) ⟨by omega, by omega, by omega⟩
  obtain ⟨c, hc', ec⟩ := hc (2 * b.hx) (2 * b.hy) (2 * b.hz) ⟨by omega, by omega, by omega⟩
  obtain rfl := List.mem_singleton.1 ha
  obtain rfl := List.mem_singleton.1 hc'
  unfold inB at ea ec
  omega
 ·intro hc
  refine ⟨fun h hm => absurd hm (List.not_mem_nil), fun P Q R hp => ⟨B, List.mem_singleton_self _, ?_⟩⟩
  unfold inB at hp ⊢
  omega

set_option maxHeartbeats 1000000

def coreR (d : Int) (leg : Bx) : Bx × Bool := if sizeB d = true then ((grownR leg ((d + 1) / 2)).1, (grownR leg ((d + 1) / 2)).2 == 0) else (zeroX, false)
theorem core_c (d : Int) (leg : Bx) (w : World) : Calls Tryz.prog 238 #[.int .i64 d, (.agg #[.int .i64 leg.lx, .int .i64 leg.ly, .int .i64 leg.lz, .int .i64 leg.hx, .int .i64 leg.hy, .int .i64 leg.hz])] w (Ret w (.tuple #[(.agg #[.int .i64 (coreR d leg).1.lx, .int .i64 (coreR d leg).1.ly, .int .i64 (coreR d leg).1.lz, .int .i64 (coreR d leg).1.hx, .int .i64 (coreR d leg).1.hy, .int .i64 (coreR d leg).1.hz]), .bool (coreR d leg).2])) := by
 have HR := hd0 (fun w => Round_c d w)
 unfold coreR roundR at *
 cases h : sizeB d
 ·rw [h] at HR
  simp only [Bool.false_eq_true, if_false] at HR ⊢
  go_enter Tryz.func238, Tryz.ntmps238
  go_wp2_with fail
  go_at_call 257; refine (HR.out _).mono ?_; rintro e w' ⟨rfl, x1, rfl⟩
  go_wp2
  refine bodyPost_ret (v := .tuple #[(.agg #[.int .i64 zeroX.lx, .int .i64 zeroX.ly, .int .i64 zeroX.lz, .int .i64 zeroX.hx, .int .i64 zeroX.hy, .int .i64 zeroX.hz]), .bool false]) (by simp [results, Tryz.results238, go_sem, zeroX]) rfl ?_
  exact Ret.of gro
 ·rw [h] at HR
  simp only [if_true] at HR ⊢
  have HG := hd0 (fun w => Grown_c leg ((d + 1) / 2) w)
  generalize (grownR leg ((d + 1) / 2)).1 = G at *
  generalize (grownR leg ((d + 1) / 2)).2 = E at *
  generalize (d + 1) / 2 = r at *
  go_enter Tryz.func238, Tryz.ntmps238
  go_wp2_with fail
  go_at_call 257; refine (HR.out _).mono ?_; rintro e w' ⟨rfl, x1, rfl⟩
  go_wp2_with fail
  go_at_call 258; refine (HG.out _).mono ?_; rintro e w' ⟨rfl, x2, rfl⟩
  go_wp2
  refine bodyPost_ret (v := .tuple #[(.agg #[.int .i64 G.lx, .int .i64 G.ly, .int .i64 G.lz, .int .i64 G.hx, .int .i64 G.hy, .int .i64 G.hz]), .bool (E == 0)]) (by simp [results, Tryz.results238, go_sem]) rfl ?_
  exact Ret.of gro

theorem held_c (q : Mb) (b : Bx) (r : Bool) (hr : (validB b && containsS q.l q.m b) = r) (hs : solidB q.l q.m = true) (w : World) (hq : MbAt w q) :
  Calls Tryz.prog 260 #[(.agg #[.string q.name, q.u, q.t, .int .i64 q.cover, .int .i64 q.agg, .int .i64 q.poker]), (.agg #[.int .i64 b.lx, .int .i64 b.ly, .int .i64 b.lz, .int .i64 b.hx, .int .i64 b.hy, .int .i64 b.hz])] w (Ret w (.bool r)) := by
 have HQ := hd0 hq
 clear hq
 cases hv : validB b
 ·rw [hv, Bool.false_and] at hr
  subst hr
  have HV := hd0 hv
  clear hv
  go_enter Tryz.func260, Tryz.ntmps260
  go_wp2_with fail
  go_at_call 29; refine (valid_v b _ HV.out _).mono ?_; rintro e w' ⟨rfl, x1, rfl⟩
  go_wp2
  go_ret
  exact Ret.of gro
 ·rw [hv, Bool.true_and] at hr
  have HC := hd0 (fun w hl hm => solidContains_v q.l q.m q.u q.t b (r, 0) (by unfold containsR17; rw [if_pos ⟨hs, hv⟩, hr]) w hl hm)
  have HV := hd0 hv
  clear hv hr
  go_enter Tryz.func260, Tryz.ntmps260
  go_wp2_with fail
  go_at_call 29; refine (valid_v b _ HV.out _).mono ?_; rintro e w' ⟨rfl, x1, rfl⟩
  go_wp2_with fail
  go_at_call 264; refine (HC.out _ (HQ.out.boxes.below gro) (HQ.out.holes.below gro)).mono ?_; rintro e w' ⟨rfl, x2, rfl⟩
  cases r
  all_goals
   go_wp2
   go_ret
   exact Ret.of gro

theorem coverAll_c (b : Bx) (c : Int) (hb : validB b = true) (hc : 0 ≤ c ∧ c ≤ 2097152) (w : World) : Calls Tryz.prog 241 #[(.agg #[.int .i64 b.lx, .int .i64 b.ly, .int .i64 b.lz, .int .i64 b.hx, .int .i64 b.hy, .int .i64 b.hz]), .int .i64 c] w (Ret w (.agg #[.int .i64 (grownX b c).lx, .int .i64 (grownX b c).ly, .int .i64 (grownX b c).lz, .int .i64 (grownX b c).hx, .int .i64 (grownX b c).hy, .int .i64 (grownX b c).hz])) := by
 have hv := valid_iff.1 hb
 clear hb
 go_enter Tryz.func241, Tryz.ntmps241
 go_wp2
 refine bodyPost_ret (v := (.agg #[.int .i64 (grownX b c).lx, .int .i64 (grownX b c).ly, .int .i64 (grownX b c).lz, .int .i64 (grownX b c).hx, .int .i64 (grownX b c).hy, .int .i64 (grownX b c).hz])) (by simp [results, Tryz.results241, go_sem, grownX]) rfl ?_
 exact Ret.of gro

theorem ofOne_c (b : Bx) (c : Int) (hb : validB b = true) (hc : 0 ≤ c ∧ c ≤ 2097152) (g : Nat) (w : World) (hg : BoxAt w g 0 b) : Calls Tryz.prog 240 #[.int .i64 c, .pointer (some ⟨g, 0, none⟩)] w (Ret w (.agg #[.int .i64 (grownX b c).lx, .int .i64 (grownX b c).ly, .int .i64 (grownX b c).lz, .int .i64 (grownX b c).hx, .int .i64 (grownX b c).hy, .int .i64 (grownX b c).hz])) := by
 obtain ⟨g0, g1, g2, g3, g4, g5⟩ := hg
 have HA := hd0 (fun w => coverAll_c b c hb hc w)
 go_enter Tryz.func240, Tryz.ntmps240
 go_wp2_with fail
 go_at_call 241; refine (HA.out _).mono ?_; rintro e w' ⟨rfl, x1, rfl⟩
 go_wp2
 refine bodyPost_ret (v := (.agg #[.int .i64 (grownX b c).lx, .int .i64 (grownX b c).ly, .int .i64 (grownX b c).lz, .int .i64 (grownX b c).hx, .int .i64 (grownX b c).hy, .int .i64 (grownX b c).hz])) (by simp [results, Tryz.results240, go_sem]) rfl ?_
 exact Ret.of gro
set_option maxHeartbeats 1000000
set_option maxRecDepth 100000

theorem held_ord {l m : List Bx} {b : Bx} (hs : solidB l m = true) (h : Ordd b) : (validB b && containsS l m b) = containsS l m b := by
 cases hc : containsS l m b
 ·simp
 ·rw [containsS_valid (solid_iff.1 hs).2.2.1 h hc]; rfl

theorem greatestA_c (q : Mb) (b : Bx) (j : Int) (r : Bool) (hr : containsS q.l q.m (grownX b j) = r) (hs : solidB q.l q.m = true) (hb : validB b = true) (hj : 0 ≤ j ∧ j ≤ 2097152) (g1 g2 g : Nat) (w : World) (hq : MbAt w q)
  (h1 : w.cell? ⟨g1, 0, none⟩ = some (.string q.name) ∧ w.cell? ⟨g1, 1, none⟩ = some q.u ∧ w.cell? ⟨g1, 2, none⟩ = some q.t ∧ w.cell? ⟨g1, 3, none⟩ = some (.int .i64 q.cover) ∧ w.cell? ⟨g1, 4, none⟩ = some (.int .i64 q.agg) ∧ w.cell? ⟨g1, 5, none⟩ = some (.int .i64 q.poker))
  (h2 : w.cell? ⟨g2, 0, none⟩ = some (.func (.func 240) #[] #[.pointer (some ⟨g, 0, none⟩)])) (hg : BoxAt w g 0 b) :
  Calls Tryz.prog 259 #[.int .i64 j, .pointer (some ⟨g1, 0, none⟩), .pointer (some ⟨g2, 0, none⟩)] w (Ret w (.bool (!r))) := by
 obtain ⟨c0, c1, c2, c3, c4, c5⟩ := h1
 have HQ := hd0 hq
 have HG := hd0 hg
 have HA := hd0 (fun w hg => ofOne_c b j hb hj g w hg)
 have ho : Ordd (grownX b j) := by have := valid_iff.1 hb; unfold Ordd; simp only [grownX]; omega
 have HH := hd0 (fun w hq => held_c q (grownX b j) r (by rw [held_ord hs ho]; exact hr) hs w hq)
 clear hq hg hb hr hs ho
 generalize grownX b j = B at *
 go_enter Tryz.func259, Tryz.ntmps259
 go_wp2_with fail
 refine wp_region_grows (by kernel_rfl) (by kernel_rfl) ?_
 repeat (go_big_quiet_step (first
  | (go_at_call 240; exact Calls.quiet_ext (HA.out _ (HG.out.ext _)))
  | (go_at_call 260; exact Calls.quiet_ext (HH.out _ (HQ.out.below gro)))))
 refine wpQuiet_nil ?_; rintro _ ⟨xq, rfl⟩
 go_wp2
 go_ret
 exact Ret.of gro

theorem enters_greatest1 : Enters 259 := enters_of Tryz.func259 (by decide) (by simp [Tryz.f259])

theorem countP_top {p : Nat → Bool} (hm : ∀ a b, a ≤ b → p b = true → p a = true) : (∀ j, j < topN p 2097153 → p j = true) ∧ ∀ j, topN p 2097153 ≤ j → j < 2097153 → p j = false := by
 obtain ⟨h1, h2, h3⟩ := topN_spec p 2097153
 exact ⟨fun j hj => hm j _ (by omega) (h2 (by omega)), h3⟩
theorem BoxAt.below {w w' : World} {b off : Nat} {x : Bx} (h : BoxAt w b off x) (hb : Below w.heap.size w w') : BoxAt w' b off x := by
 obtain ⟨y, rfl⟩ := ext_of hb
 exact h.ext y
def MCells (w : World) (g : Nat) (q : Mb) : Prop := w.cell? ⟨g, 0, none⟩ = some (.string q.name) ∧ w.cell? ⟨g, 1, none⟩ = some q.u ∧ w.cell? ⟨g, 2, none⟩ = some q.t ∧ w.cell? ⟨g, 3, none⟩ = some (.int .i64 q.cover) ∧ w.cell? ⟨g, 4, none⟩ = some (.int .i64 q.agg) ∧ w.cell? ⟨g, 5, none⟩ = some (.int .i64 q.poker)
theorem MCells.ext {w : World} {g : Nat} {q : Mb} (h : MCells w g q) (x : World) : MCells (ext w x) g q := ⟨cell_ext_some h.1 x, cell_ext_some h.2.1 x, cell_ext_some h.2.2.1 x, cell_ext_some h.2.2.2.1 x, cell_ext_some h.2.2.2.2.1 x, cell_ext_some h.2.2.2.2.2 x⟩
theorem ordd_of {b : Bx} (h : validB b = true) : Ordd b := by have := valid_iff.1 h; unfold Ordd; omega

theorem greatest_a (q : Mb) (b : Bx) (r : Int) (hr : coverC q.l q.m b = r) (hs : solidB q.l q.m = true) (hb : validB b = true) (g : Nat) (w : World) (hq : MbAt w q) (hg : BoxAt w g 0 b) :
  Calls Tryz.prog 239 #[(.agg #[.string q.name, q.u, q.t, .int .i64 q.cover, .int .i64 q.agg, .int .i64 q.poker]), .func (.func 240) #[] #[.pointer (some ⟨g, 0, none⟩)]] w (Ret w (.int .i64 r)) := by
 have hd := countP_top (p := fun c => containsS q.l q.m (grownX b c)) (cover_down (ordd_of hb))
 have hT := (topN_spec (fun c => containsS q.l q.m (grownX b c)) 2097153).1
 have hR : (topN (fun c => containsS q.l q.m (grownX b c)) 2097153 : Int) - 1 = r := hr
 generalize topN (fun c => containsS q.l q.m (grownX b c)) 2097153 = T at *
 subst hR
 have HS := hd0 (fun g1 g2 w2 (hq : MbAt w2 q) (h1 : MCells w2 g1 q) (h2 : w2.cell? ⟨g2, 0, none⟩ = some (.func (.func 240) #[] #[.pointer (some ⟨g, 0, none⟩)])) (hg : BoxAt w2 g 0 b) =>
  search_c 259 enters_greatest1 #[.pointer (some ⟨g1, 0, none⟩), .pointer (some ⟨g2, 0, none⟩)] 2097153 T (fun c => !containsS q.l q.m (grownX b c)) (by decide) hT (fun j hj => by simp only [hd.1 j hj, Bool.not_true]) (fun j h1 h2 => by simp only [hd.2 j h1 h2, Bool.not_false]) w2
   (fun j x hj => greatestA_c q b j _ rfl hs hb (by omega) g1 g2 g (ext w2 x) (hq.below (below_ext w2 x)) (h1.ext x) (cell_ext_some h2 x) (hg.ext x)))
 have HQ := hd0 hq
 have HG := hd0 hg
 clear hq hg hd hb
 go_enter Tryz.func239, Tryz.ntmps239
 go_wp2_with fail
 go_at_call 106; refine (HS.out w.heap.size (w.heap.size + 1) _ (HQ.out.below gro) (by simp [MCells, go_sem]) (by simp [go_sem]) (BoxAt.below HG.out gro)).mono ?_; rintro e w' ⟨rfl, x1, rfl⟩
 go_wp2
 go_ret
 exact Ret.of gro

set_option maxHeartbeats 1000000

theorem halfD_in {d : Int} (h : sizeB d = true) : 3 ≤ halfI d ∧ halfI d ≤ 20 := by
 have := size_iff.1 h
 unfold halfI; omega
def coreX (d : Int) (leg : Bx) : Bx := grownX leg (halfI d)
theorem core_ord {d : Int} {leg : Bx} (h : validB leg = true) (hd : sizeB d = true) : Ordd (coreX d leg) := by
 have h1 := halfD_in hd
 have h2 := valid_iff.1 h
 unfold Ordd coreX; simp only [grownX]; omega
theorem coreR_ok {d : Int} {leg : Bx} (h : validB leg = true) (hd : sizeB d = true) : coreR d leg = if validB (coreX d leg) = true then (coreX d leg, true) else (zeroX, false) := by
 have h1 := halfD_in hd
 have e : ¬ (halfI d < 0 ∨ 1048576 < halfI d) := by omega
 unfold coreR grownR
 rw [if_pos hd, h]
 simp only [Bool.true_eq_false, if_false]
 rw [show (d + 1) / 2 = halfI d from rfl, if_neg e]
 unfold coreX
 cases validB (grownX leg (halfI d)) <;> rfl

theorem of_c (q : Mb) (d : Int) (leg : Bx) (r : Int) (hr : coverC q.l q.m (coreX d leg) = r) (hs : solidB q.l q.m = true) (h : validB leg = true) (hd : sizeB d = true) (w : World) (hq : MbAt w q) :
  Calls Tryz.prog 200 #[(.agg #[.string q.name, q.u, q.t, .int .i64 q.cover, .int .i64 q.agg, .int .i64 q.poker]), .int .i64 d, (.agg #[.int .i64 leg.lx, .int .i64 leg.ly, .int .i64 leg.lz, .int .i64 leg.hx, .int .i64 leg.hy, .int .i64 leg.hz])] w (Ret w (.int .i64 r)) := by
 have HC := hd0 (fun w => core_c d leg w)
 rw [coreR_ok h hd] at HC
 have HQ := hd0 hq
 have ho := core_ord h hd
 clear hq h hd
 cases hv : validB (coreX d leg)
 ·obtain rfl : -1 = r := by
   rw [← hr, cover_none ho]
   have := held_ord hs ho
   rw [hv] at this
   simpa using this.symm
  rw [hv] at HC
  simp only [Bool.false_eq_true, if_false, zeroX] at HC
  clear hr ho
  go_enter Tryz.func200, Tryz.ntmps200
  go_wp2_with fail
  go_at_call 238; refine (HC.out _).mono ?_; rintro e w' ⟨rfl, x1, rfl⟩
  go_wp2
  go_ret
  exact Ret.of gro
 ·rw [hv] at HC
  simp only [if_true] at HC
  have HG := hd0 (fun g w hq hg => greatest_a q (coreX d leg) r hr hs hv g w hq hg)
  generalize coreX d leg = b at *
  clear hr ho hv
  go_enter Tryz.func200, Tryz.ntmps200
  go_wp2_with fail
  go_at_call 238; refine (HC.out _).mono ?_; rintro e w' ⟨rfl, x1, rfl⟩
  go_wp2_with fail
  go_at_call 239; refine (HG.out _ _ (HQ.out.below gro) (by simp [BoxAt, go_sem])).mono ?_; rintro e w' ⟨rfl, x2, rfl⟩
  go_wp2
  go_ret
  exact Ret.of gro

def mbB (q : Mb) : Bool := memberB q.name q.l q.m q.cover q.agg q.poker
theorem mb_solid {q : Mb} (h : mbB q = true) : solidB q.l q.m = true := (member_iff.1 h).2.1

def FdAt (w : World) (b off : Nat) (m : ByteArray) : Prop := w.cell? ⟨b, off, none⟩ = some (.int .i64 1) ∧ w.cell? ⟨b, off + 1, none⟩ = some (.string m)
def Fds (w : World) (v : Value) (l : List ByteArray) : Prop :=
 ∃ a cap, v = .slice a l.length cap ∧ l.length ≤ cap ∧ cap ≤ 9223372036854775807 ∧ ∀ i (h : i < l.length), ∃ b off, a = some ⟨b, off, none⟩ ∧ FdAt w b (off + i * 2) l[i]
theorem Fds.ext {w : World} {v : Value} {l : List ByteArray} (h : Fds w v l) (y : World) : Fds (ext w y) v l := by
 obtain ⟨a, cap, h1, h2, h3, h4⟩ := h
 exact ⟨a, cap, h1, h2, h3, fun i hi => let ⟨b, off, e, hb, hc⟩ := h4 i hi; ⟨b, off, e, cell_ext_some hb y, cell_ext_some hc y⟩⟩
theorem Fds.below {w w' : World} {v : Value} {l : List ByteArray} (h : Fds w v l) (hb : Below w.heap.size w w') : Fds w' v l := by
 obtain ⟨x, rfl⟩ := ext_of hb
 exact h.ext x
theorem Fds.shape {w : World} {v : Value} {l : List ByteArray} (h : Fds w v l) : ∃ a cap, v = .slice a l.length cap ∧ l.length ≤ cap ∧ cap ≤ 9223372036854775807 ∧ ∀ i (h : i < l.length), ∃ b off, a = some ⟨b, off, none⟩ ∧ FdAt w b (off + i * 2) l[i] := h
def fdCells (l : List ByteArray) : List Value := l.flatMap fun m => [.int .i64 1, .string m]
theorem fdCells_append (a b : List ByteArray) : fdCells (a ++ b) = fdCells a ++ fdCells b := by unfold fdCells; rw [List.flatMap_append]
theorem fdCells_one (l : List ByteArray) : ∀ u ∈ fdCells l, u.oneCell' = true := by
 intro u hu
 unfold fdCells at hu
 obtain ⟨b, _, hb⟩ := List.mem_flatMap.1 hu
 simp only [List.mem_cons, List.not_mem_nil, or_false] at hb
 rcases hb with rfl | rfl <;> rfl
theorem fdCells_get (l : List ByteArray) (i : Nat) (h : i < l.length) : (fdCells l)[i * 2]? = some (.int .i64 1) ∧ (fdCells l)[i * 2 + 1]? = some (.string l[i]) := by
 induction l generalizing i with
 | nil => simp at h
 | cons a l ih =>
   cases i with
   | zero => simp [fdCells]
   | succ i =>
     have := ih i (by simpa using h)
     have hc : ∀ k, (fdCells (a :: l))[(i + 1) * 2 + k]? = (fdCells l)[i * 2 + k]? := fun k => by
      rw [show (i + 1) * 2 + k = (i * 2 + k) + 1 + 1 by omega]
      simp only [fdCells, List.flatMap_cons, List.cons_append, List.nil_append, List.getElem?_cons_succ]
     have h0 := hc 0
     rw [Nat.add_zero, Nat.add_zero] at h0
     rw [h0, hc]
     exact this
theorem Fds.of_own {w : World} {base : Nat} {e : TypeId} {v : Value} {l : List ByteArray} (h : w.ownsRow base e 2 v l.length (fdCells l)) : Fds w v l := by
 obtain ⟨a, cap, rfl, h1, h2, h3⟩ := own_shape h
 unfold maxLen at h2
 refine ⟨a, cap, rfl, h1, by omega, fun i hi => ?_⟩
 obtain ⟨g, rfl, _, hc⟩ := h3 (by omega)
 obtain ⟨p0, p1⟩ := fdCells_get l i hi
 refine ⟨g, 0, rfl, ?_⟩
 rw [Nat.zero_add]
 exact ⟨by rw [hc _ (by omega), p0], by rw [hc _ (by omega), p1]⟩
def RetFds (w : World) (l : List ByteArray) (err : Int) (e : Ending) (w' : World) : Prop :=
 ∃ v, e = .returned (.tuple #[v, .int .i64 err]) ∧ w'.ownsRow w.heap.size 156 2 v l.length (fdCells l) ∧ ∃ x, w' = ext w x
theorem fds_len {w : World} {L : List ByteArray} {err : Int} {N : Nat} (hN : L.length = N) {e : Ending} {W : World} (h : RetFds w L err e W) :
  ∃ a c, e = .returned (.tuple #[.slice a N c, .int .i64 err]) ∧ N ≤ c ∧ c ≤ 9223372036854775807 ∧ ∃ x, W = ext w x := by
 subst hN
 obtain ⟨v, rfl, hown, x, rfl⟩ := h
 obtain ⟨a, c, rfl, h1, h2, -⟩ := own_shape hown
 exact ⟨a, c, rfl, h1, h2, x, rfl⟩
theorem info_fd : (Tryz.prog.info? 156).map (fun i => (i.zero, i.size, i.bytes)) = some (some (.agg #[.int .i64 0, .string ⟨#[]⟩]), 2, 24) := by kernel_rfl
theorem own_fds {W : World} {M : Nat} {e : TypeId} {v : Value} {n : Nat} {l : List ByteArray} {c : ByteArray} (h : W.ownsRow M e 2 v (n + 1) (fdCells l ++ fdCells [c])) (hn : n = l.length) : W.ownsRow M e 2 v (l ++ [c]).length (fdCells (l ++ [c])) := by
 subst hn
 rw [fdCells_append, List.length_append]; exact h

set_option maxHeartbeats 4000000
set_option maxRecDepth 100000

set_option maxHeartbeats 4000000
set_option maxRecDepth 100000

attribute [local go_sem] Oper.semAt_some

end Go.Proofs.YtkjljneehgmmaaaGreat

namespace Go.Proofs.YtkjljneehgmmaaaGreat
set_option linter.unusedVariables false
set_option linter.unusedSimpArgs false
open Go.RowKit
set_option maxRecDepth 20000
attribute [local go_sem] Oper.semAt_some

end Go.Proofs.YtkjljneehgmmaaaGreat


namespace Go.Proofs.YtkjljneehgmmaaaGreat
set_option linter.unusedVariables false
set_option linter.unusedSimpArgs false
open Go.RowKit
set_option maxRecDepth 20000
set_option maxHeartbeats 2000000

def smallB (a b n : Nat) : Bool := (decide (a ≤ n) || decide (20 < a)) && decide (a ≤ 25) && (decide (b ≤ n) || decide (20 < b)) && decide (b ≤ 25)
theorem small_iff {a b n : Nat} : smallB a b n = true ↔ ((a ≤ n ∨ 20 < a) ∧ a ≤ 25) ∧ ((b ≤ n ∨ 20 < b) ∧ b ≤ 25) := by
 unfold smallB; simp only [Bool.and_eq_true, Bool.or_eq_true, decide_eq_true_iff, and_assoc]

theorem refSmall_c (l m : List Bx) (u t : Value) (n : Nat) (w : World) (hl : Boxes w u l) (hm : Boxes w t m) :
  Calls Tryz.prog 47 #[.agg #[u, t], .int .i64 n] w (Ret w (.bool (smallB l.length m.length n))) := by
 obtain ⟨ua, uc, rfl, _, _, _⟩ := hl.shape
 obtain ⟨ta, tc, rfl, _, _, _⟩ := hm.shape
 clear hl hm
 go_enter Tryz.func47, Tryz.ntmps47
 go_wp2_with fail
 refine wp_region_grows (by kernel_rfl) (by kernel_rfl) ?_
 repeat (go_big_quiet_step (fail))
 refine wpQuiet_nil ?_; rintro _ ⟨xq, rfl⟩
 go_wp2
 all_goals
  go_ret
  exact Ret.bool (by rw [Bool.eq_iff_iff, small_iff]; simp; try omega) gro
theorem refSmall_v (l m : List Bx) (u t : Value) (n : Nat) (r : Bool) (h : smallB l.length m.length n = r) (w : World) (hl : Boxes w u l) (hm : Boxes w t m) :
  Calls Tryz.prog 47 #[.agg #[u, t], .int .i64 n] w (Ret w (.bool r)) := by subst h; exact refSmall_c l m u t n w hl hm




set_option maxHeartbeats 1000000


theorem BoxAt.shape {w : World} {b off : Nat} {x : Bx} (h : BoxAt w b off x) : w.cell? ⟨b, off, none⟩ = some (.int .i64 x.lx) ∧ w.cell? ⟨b, off + 1, none⟩ = some (.int .i64 x.ly) ∧ w.cell? ⟨b, off + 2, none⟩ = some (.int .i64 x.lz) ∧
 w.cell? ⟨b, off + 3, none⟩ = some (.int .i64 x.hx) ∧ w.cell? ⟨b, off + 4, none⟩ = some (.int .i64 x.hy) ∧ w.cell? ⟨b, off + 5, none⟩ = some (.int .i64 x.hz) := h

set_option maxHeartbeats 4000000
set_option maxRecDepth 100000

end Go.Proofs.YtkjljneehgmmaaaGreat



/- RefK, Hull, PlainK0, SolK in one text. -/
import Derived.Test.YtkjljneehgmmaaaGreatBoxK2
import Derived.Test.YtkjljneehgmmaaaGreatExtK
import Derived.Test.YtkjljneehgmmaaaGreatAaK1
import Derived.Deep.RegionHeld3
import Derived.Lib.AppendZeros
import Derived.Laws.OwnMore
namespace Go.Proofs.YtkjljneehgmmaaaGreat
open Go.RowKit
set_option maxRecDepth 20000
set_option maxHeartbeats 4000000

def isLen (n : Int) : Bool := decide (-1048576 ≤ n ∧ n ≤ 1048576)
theorem isLength_c (n : Int) (w : World) : Calls Tryz.prog 157 #[.int .i64 n] w (Ret w (.bool (isLen n))) := by
 go_enter Tryz.func157, Tryz.ntmps157
 go_wp2
 all_goals
  go_ret
  exact Ret.bool (by unfold isLen; simp; omega) gro
theorem isLength_v (n : Int) (r : Bool) (h : isLen n = r) (w : World) : Calls Tryz.prog 157 #[.int .i64 n] w (Ret w (.bool r)) := by
 subst h; exact isLength_c n w

def coordI (x y z k : Int) : Int := if k = 0 then x else if k = 1 then y else z
theorem coord_c (x y z k : Int) (h : 0 ≤ k ∧ k ≤ 2) (w : World) : Calls Tryz.prog 158 #[(.agg #[.int .i64 x, .int .i64 y, .int .i64 z]), .int .i64 k] w (Ret w (.int .i64 (coordI x y z k))) := by
 have hk : k = 0 ∨ k = 1 ∨ k = 2 := by omega
 rcases hk with rfl | rfl | rfl
 all_goals
  clear h
  go_enter Tryz.func158, Tryz.ntmps158
  go_wp2
  go_ret
  exact Ret.of gro
theorem coord0_c (x y z : Int) (w : World) : Calls Tryz.prog 158 #[(.agg #[.int .i64 x, .int .i64 y, .int .i64 z]), .int .i64 0] w (Ret w (.int .i64 x)) := coord_c x y z 0 (by omega) w
theorem coord1_c (x y z : Int) (w : World) : Calls Tryz.prog 158 #[(.agg #[.int .i64 x, .int .i64 y, .int .i64 z]), .int .i64 1] w (Ret w (.int .i64 y)) := coord_c x y z 1 (by omega) w
theorem coord2_c (x y z : Int) (w : World) : Calls Tryz.prog 158 #[(.agg #[.int .i64 x, .int .i64 y, .int .i64 z]), .int .i64 2] w (Ret w (.int .i64 z)) := coord_c x y z 2 (by omega) w
theorem isLen_iff {n : Int} : isLen n = true ↔ (-1048576 ≤ n ∧ n ≤ 1048576) := by unfold isLen; exact decide_eq_true_iff
theorem isLen_not {n : Int} (h : isLen n = false) : n < -1048576 ∨ 1048576 < n := by
 unfold isLen at h; have := of_decide_eq_false h; omega

set_option maxRecDepth 100000 in
theorem refValid_c (b : Bx) (w : World) : Calls Tryz.prog 98 #[(.agg #[.int .i64 b.lx, .int .i64 b.ly, .int .i64 b.lz, .int .i64 b.hx, .int .i64 b.hy, .int .i64 b.hz])] w (Ret w (.bool (validB b))) := by
 go_enter Tryz.func98, Tryz.ntmps98
 go_wp2
 refine wp_loop_rounds 4 ?_
 rw [rounds_succ]
 go_wp2_with fail
 cases i1 : isLen b.lx
 ·have := isLen_not i1
  refine wp_region_grows (by kernel_rfl) (by kernel_rfl) ?_
  repeat (go_big_quiet_step ((first | (go_at_call 158; exact Calls.quiet_ext (coord0_c _ _ _ _)) | (go_at_call_of 157 (Value.int IntKind.i64 b.lx); exact Calls.quiet_ext (isLength_v b.lx _ i1 _)))))
  refine wpQuiet_nil ?_; rintro _ ⟨xq, rfl⟩
  go_wp2
  go_ret
  exact Ret.bool (by unfold validB; simp; omega) gro
 ·have k1 := isLen_iff.1 i1
  cases i2 : isLen b.hx
  ·have := isLen_not i2
   refine wp_region_grows (by kernel_rfl) (by kernel_rfl) ?_
   repeat (go_big_quiet_step ((first | (go_at_call 158; exact Calls.quiet_ext (coord0_c _ _ _ _)) | (go_at_call_of 157 (Value.int IntKind.i64 b.lx); exact Calls.quiet_ext (isLength_v b.lx _ i1 _)) | (go_at_call_of 157 (Value.int IntKind.i64 b.hx); exact Calls.quiet_ext (isLength_v b.hx _ i2 _)))))
   refine wpQuiet_nil ?_; rintro _ ⟨xq, rfl⟩
   go_wp2
   go_ret
   exact Ret.bool (by unfold validB; simp; omega) gro
  ·have k2 := isLen_iff.1 i2
   refine wp_region_grows (by kernel_rfl) (by kernel_rfl) ?_
   repeat (go_big_quiet_step ((first | (go_at_call 158; exact Calls.quiet_ext (coord0_c _ _ _ _)) | (go_at_call_of 157 (Value.int IntKind.i64 b.lx); exact Calls.quiet_ext (isLength_v b.lx _ i1 _)) | (go_at_call_of 157 (Value.int IntKind.i64 b.hx); exact Calls.quiet_ext (isLength_v b.hx _ i2 _)))))
   refine wpQuiet_nil ?_; rintro _ ⟨xq, rfl⟩
   clear i1 i2
   go_wp2_with fail
   all_goals first | (go_ret; exact Ret.bool (by unfold validB; simp; omega) gro) | rw [rounds_succ]
   go_wp2_with fail
   cases i1 : isLen b.ly
   ·have := isLen_not i1
    refine wp_region_grows (by kernel_rfl) (by kernel_rfl) ?_
    repeat (go_big_quiet_step ((first | (go_at_call 158; exact Calls.quiet_ext (coord1_c _ _ _ _)) | (go_at_call_of 157 (Value.int IntKind.i64 b.ly); exact Calls.quiet_ext (isLength_v b.ly _ i1 _)))))
    refine wpQuiet_nil ?_; rintro _ ⟨xq, rfl⟩
    go_wp2
    go_ret
    exact Ret.bool (by unfold validB; simp; omega) gro
   ·have k1 := isLen_iff.1 i1
    cases i2 : isLen b.hy
    ·have := isLen_not i2
     refine wp_region_grows (by kernel_rfl) (by kernel_rfl) ?_
     repeat (go_big_quiet_step ((first | (go_at_call 158; exact Calls.quiet_ext (coord1_c _ _ _ _)) | (go_at_call_of 157 (Value.int IntKind.i64 b.ly); exact Calls.quiet_ext (isLength_v b.ly _ i1 _)) | (go_at_call_of 157 (Value.int IntKind.i64 b.hy); exact Calls.quiet_ext (isLength_v b.hy _ i2 _)))))
     refine wpQuiet_nil ?_; rintro _ ⟨xq, rfl⟩
     go_wp2
     go_ret
     exact Ret.bool (by unfold validB; simp; omega) gro
    ·have k2 := isLen_iff.1 i2
     refine wp_region_grows (by kernel_rfl) (by kernel_rfl) ?_
     repeat (go_big_quiet_step ((first | (go_at_call 158; exact Calls.quiet_ext (coord1_c _ _ _ _)) | (go_at_call_of 157 (Value.int IntKind.i64 b.ly); exact Calls.quiet_ext (isLength_v b.ly _ i1 _)) | (go_at_call_of 157 (Value.int IntKind.i64 b.hy); exact Calls.quiet_ext (isLength_v b.hy _ i2 _)))))
     refine wpQuiet_nil ?_; rintro _ ⟨xq, rfl⟩
     clear i1 i2
     go_wp2_with fail
     all_goals first | (go_ret; exact Ret.bool (by unfold validB; simp; omega) gro) | rw [rounds_succ]
     go_wp2_with fail
     cases i1 : isLen b.lz
     ·have := isLen_not i1
      refine wp_region_grows (by kernel_rfl) (by kernel_rfl) ?_
      repeat (go_big_quiet_step ((first | (go_at_call 158; exact Calls.quiet_ext (coord2_c _ _ _ _)) | (go_at_call_of 157 (Value.int IntKind.i64 b.lz); exact Calls.quiet_ext (isLength_v b.lz _ i1 _)))))
      refine wpQuiet_nil ?_; rintro _ ⟨xq, rfl⟩
      go_wp2
      go_ret
      exact Ret.bool (by unfold validB; simp; omega) gro
     ·have k1 := isLen_iff.1 i1
      cases i2 : isLen b.hz
      ·have := isLen_not i2
       refine wp_region_grows (by kernel_rfl) (by kernel_rfl) ?_
       repeat (go_big_quiet_step ((first | (go_at_call 158; exact Calls.quiet_ext (coord2_c _ _ _ _)) | (go_at_call_of 157 (Value.int IntKind.i64 b.lz); exact Calls.quiet_ext (isLength_v b.lz _ i1 _)) | (go_at_call_of 157 (Value.int IntKind.i64 b.hz); exact Calls.quiet_ext (isLength_v b.hz _ i2 _)))))
       refine wpQuiet_nil ?_; rintro _ ⟨xq, rfl⟩
       go_wp2
       go_ret
       exact Ret.bool (by unfold validB; simp; omega) gro
      ·have k2 := isLen_iff.1 i2
       refine wp_region_grows (by kernel_rfl) (by kernel_rfl) ?_
       repeat (go_big_quiet_step ((first | (go_at_call 158; exact Calls.quiet_ext (coord2_c _ _ _ _)) | (go_at_call_of 157 (Value.int IntKind.i64 b.lz); exact Calls.quiet_ext (isLength_v b.lz _ i1 _)) | (go_at_call_of 157 (Value.int IntKind.i64 b.hz); exact Calls.quiet_ext (isLength_v b.hz _ i2 _)))))
       refine wpQuiet_nil ?_; rintro _ ⟨xq, rfl⟩
       clear i1 i2
       go_wp2_with fail
       all_goals first | (go_ret; exact Ret.bool (by unfold validB; simp; omega) gro) | rw [rounds_succ]
       go_wp2_with fail
       go_ret
       exact Ret.bool (by unfold validB; simp; omega) gro

set_option maxHeartbeats 1000000

def squareI (a b : Bx) : Int := max 0 (alongI a b 0) * max 0 (alongI a b 0) + max 0 (alongI a b 1) * max 0 (alongI a b 1) + max 0 (alongI a b 2) * max 0 (alongI a b 2)
theorem along_bound {a b : Bx} (ha : validB a = true) (hb : validB b = true) (k : Int) : alongI a b k ≤ 2097152 := by
 have h1 := valid_iff.1 ha
 have h2 := valid_iff.1 hb
 unfold alongI Bx.lo Bx.hi
 split <;> (try split) <;> omega
theorem pos_sq {a b : Bx} (ha : validB a = true) (hb : validB b = true) (k : Int) : 0 ≤ max 0 (alongI a b k) * max 0 (alongI a b k) ∧ max 0 (alongI a b k) * max 0 (alongI a b k) ≤ 4398046511104 := by
 have h := along_bound ha hb k
 generalize alongI a b k = n at h
 have h0 : 0 ≤ max 0 n := by omega
 have h1 : max 0 n ≤ 2097152 := by omega
 exact ⟨Int.mul_nonneg h0 h0, by have := Int.mul_le_mul h1 h1 h0 (by omega); omega⟩

theorem Square_ok (a b : Bx) (ha : validB a = true) (hb : validB b = true) (w : World) :
  Calls Tryz.prog 133 #[(.agg #[.int .i64 a.lx, .int .i64 a.ly, .int .i64 a.lz, .int .i64 a.hx, .int .i64 a.hy, .int .i64 a.hz]), (.agg #[.int .i64 b.lx, .int .i64 b.ly, .int .i64 b.lz, .int .i64 b.hx, .int .i64 b.hy, .int .i64 b.hz])] w (Ret w (.tuple #[.int .i64 (squareI a b), .int .i64 0])) := by
 have ka := Bd.of_valid ha
 have kb := Bd.of_valid hb
 have q0 := pos_sq ha hb 0
 have q1 := pos_sq ha hb 1
 have q2 := pos_sq ha hb 2
 go_enter Tryz.func133, Tryz.ntmps133
 go_wp2_with fail
 go_at_call 29; refine (valid_v a _ ha _).mono ?_; rintro e w' ⟨rfl, x, rfl⟩
 go_wp2_with fail
 go_at_call 29; refine (valid_v b _ hb _).mono ?_; rintro e w' ⟨rfl, x, rfl⟩
 go_wp2_with fail
 refine wp_loop_rounds 4 ?_
 rw [rounds_succ]
 go_wp2_with fail
 go_at_call 187; refine (along_c a b 0 (by omega) ka kb _).mono ?_; rintro e w' ⟨rfl, x, rfl⟩
 go_wp2_with fail
 rw [rounds_succ]
 go_wp2_with fail
 go_at_call 187; refine (along_c a b 1 (by omega) ka kb _).mono ?_; rintro e w' ⟨rfl, x, rfl⟩
 go_wp2_with fail
 rw [rounds_succ]
 go_wp2_with fail
 go_at_call 187; refine (along_c a b 2 (by omega) ka kb _).mono ?_; rintro e w' ⟨rfl, x, rfl⟩
 go_wp2_with fail
 rw [rounds_succ]
 go_wp2_with fail
 go_ret2
 exact Ret.of gro


set_option maxHeartbeats 400000


def lenOf : Value → Nat
 | .slice _ n _ => n
 | _ => 0


def rowY (P2 : List (Int × Int)) (x y : Int × Int) : List Bx := P2.map (cellX x y)
def rowX (P1 P2 : List (Int × Int)) (x : Int × Int) : List Bx := P1.flatMap (rowY P2 x)
def rowA (P0 P1 P2 : List (Int × Int)) : List Bx := P0.flatMap (rowX P1 P2)

theorem boxCells_append (a b : List Bx) : boxCells (a ++ b) = boxCells a ++ boxCells b := by unfold boxCells; rw [List.flatMap_append]
set_option maxHeartbeats 1000000

set_option maxHeartbeats 4000000
set_option maxRecDepth 100000

def joinX (a b : Bx) : Bx := ⟨min a.lx b.lx, min a.ly b.ly, min a.lz b.lz, max a.hx b.hx, max a.hy b.hy, max a.hz b.hz⟩
def hullTo (a : Bx) (l : List Bx) (i : Nat) : Bx := (l.take i).foldl joinX a
def hullX : List Bx → Bx
 | [] => zeroX
 | a :: r => (a :: r).foldl joinX a
theorem hullTo_succ (a : Bx) (l : List Bx) (i : Nat) (h : i < l.length) : hullTo a l (i + 1) = joinX (hullTo a l i) l[i] := by
 unfold hullTo; rw [List.take_succ_eq_append_getElem h, List.foldl_append]; rfl
theorem hullTo_all (l : List Bx) (h : 0 < l.length) : hullTo l[0] l l.length = hullX l := by
 unfold hullTo
 rw [List.take_length]
 cases l with
 | nil => simp at h
 | cons a r => rfl

theorem Hull_ok (l : List Bx) (v : Value) (w : World) (hl : Boxes w v l) (h1 : l.all validB = true) (h0 : 0 < l.length) :
  Calls Tryz.prog 129 #[v] w (Ret w (.tuple #[(.agg #[.int .i64 (hullX l).lx, .int .i64 (hullX l).ly, .int .i64 (hullX l).lz, .int .i64 (hullX l).hx, .int .i64 (hullX l).hy, .int .i64 (hullX l).hz]), .int .i64 0])) := by
 obtain ⟨a, cap, rfl, hcap, hcap2, hcell⟩ := hl.shape
 have HCE := hd0 hcell
 have HALL := hd0 (hullTo_all l h0)
 obtain ⟨b0, off0, rfl, c0, c1, c2, c3, c4, c5⟩ := hcell 0 h0
 rw [Nat.zero_mul, Nat.add_zero] at c0 c1 c2 c3 c4 c5
 clear hcell
 have HL := hd0 hl
 clear hl
 have hz : ¬ ((l.length : Int) = 0) := by omega
 have hp : (0 : Int) < (l.length : Int) := by omega
 go_enter Tryz.func129, Tryz.ntmps129
 go_wp2_with fail
 refine (all_c l _ _ (HL.out.below gro)).mono ?_; rintro e w' ⟨rfl, x1, rfl⟩
 rw [h1]
 go_wp2_with fail
 clear c0 c1 c2 c3 c4 c5
 go_loopw [22] (fun i wr => ∃ j : Nat, j ≤ l.length ∧ i = .int .i64 j ∧ ∃ x, wr = ext ((ext (w.alloc (.cells #[.int .i64 0, .int .i64 0, .int .i64 0, .int .i64 0, .int .i64 0, .int .i64 0] 40)) x1).alloc (.cells #[.int .i64 (hullTo l[0] l j).lx, .int .i64 (hullTo l[0] l j).ly, .int .i64 (hullTo l[0] l j).lz, .int .i64 (hullTo l[0] l j).hx, .int .i64 (hullTo l[0] l j).hy, .int .i64 (hullTo l[0] l j).hz] 40)) x) (fun i _ => l.length - (intOf i).toNat)
 case atStart => exact ⟨0, by omega, rfl, ext_refl _⟩
 case round =>
  obtain ⟨j, hj, rfl, x, rfl⟩ := hrel
  by_cases hlt : j < l.length
  ·obtain ⟨b1, off1, e1, c0, c1, c2, c3, c4, c5⟩ := HCE.out j hlt
   cases e1
   have HS := hd0 (hullTo_succ l[0] l j hlt)
   generalize hullTo l[0] l j = H at HS
   go_wp2
   go_roundw
   case rel => exact ⟨j + 1, by omega, by go_num, by rw [HS.out]; simp only [joinX]; exact ext_of gro⟩
   case measure => simp [intOf]; omega
  ·obtain rfl : j = l.length := by omega
   rw [HALL.out]
   go_wp2
   refine bodyPost_ret (v := .tuple #[(.agg #[.int .i64 (hullX l).lx, .int .i64 (hullX l).ly, .int .i64 (hullX l).lz, .int .i64 (hullX l).hx, .int .i64 (hullX l).hy, .int .i64 (hullX l).hz]), .int .i64 0]) (by simp [results, Tryz.results129, go_sem]) rfl ?_
   exact Ret.of gro

theorem Hull_arg (l : List Bx) (v : Value) (w : World) (hl : Boxes w v l) (h1 : l.all validB = false) :
  Calls Tryz.prog 129 #[v] w (Ret w (.tuple #[(.agg #[.int .i64 0, .int .i64 0, .int .i64 0, .int .i64 0, .int .i64 0, .int .i64 0]), .int .i64 1])) := by
 go_enter Tryz.func129, Tryz.ntmps129
 go_wp2_with fail
 refine (all_c l _ _ (hl.below gro)).mono ?_; rintro e w' ⟨rfl, x1, rfl⟩
 rw [h1]
 go_wp2
 refine bodyPost_ret (v := .tuple #[(.agg #[.int .i64 0, .int .i64 0, .int .i64 0, .int .i64 0, .int .i64 0, .int .i64 0]), .int .i64 1]) (by simp [results, Tryz.results129, go_sem]) rfl ?_
 exact Ret.of gro

theorem Hull_empty (v : Value) (w : World) (hl : Boxes w v []) :
  Calls Tryz.prog 129 #[v] w (Ret w (.tuple #[(.agg #[.int .i64 0, .int .i64 0, .int .i64 0, .int .i64 0, .int .i64 0, .int .i64 0]), .int .i64 14])) := by
 obtain ⟨a, cap, rfl, hcap, hcap2, hcell⟩ := hl.shape
 clear hcell
 have HL := hd0 hl
 clear hl
 simp only [List.length_nil] at *
 go_enter Tryz.func129, Tryz.ntmps129
 go_wp2_with fail
 refine (all_c [] _ _ (HL.out.below gro)).mono ?_; rintro e w' ⟨rfl, x1, rfl⟩
 rw [show ([] : List Bx).all validB = true from rfl]
 go_wp2
 refine bodyPost_ret (v := .tuple #[(.agg #[.int .i64 0, .int .i64 0, .int .i64 0, .int .i64 0, .int .i64 0, .int .i64 0]), .int .i64 14]) (by simp [results, Tryz.results129, go_sem]) rfl ?_
 exact Ret.of gro

def hullR (l : List Bx) : Bx × Int := if l.all validB = true then (if 0 < l.length then (hullX l, 0) else (zeroX, 14)) else (zeroX, 1)
theorem Hull_c (l : List Bx) (v : Value) (w : World) (hl : Boxes w v l) : Calls Tryz.prog 129 #[v] w (Ret w (.tuple #[(.agg #[.int .i64 (hullR l).1.lx, .int .i64 (hullR l).1.ly, .int .i64 (hullR l).1.lz, .int .i64 (hullR l).1.hx, .int .i64 (hullR l).1.hy, .int .i64 (hullR l).1.hz]), .int .i64 (hullR l).2])) := by
 unfold hullR
 cases h : l.all validB
 ·simpa [zeroX] using Hull_arg l v w hl h
 ·by_cases h0 : 0 < l.length
  ·simpa [h0] using Hull_ok l v w hl h h0
  ·have : l = [] := List.eq_nil_of_length_eq_zero (by omega)
   subst this
   simpa [zeroX] using Hull_empty v w hl

end Go.Proofs.YtkjljneehgmmaaaGreat

namespace Go.Proofs.YtkjljneehgmmaaaGreat

end Go.Proofs.YtkjljneehgmmaaaGreat

namespace Go.Proofs.YtkjljneehgmmaaaGreat

def opensB (h b : Bx) : Bool := decide (b.lx < h.hx ∧ h.lx < b.hx ∧ b.ly < h.hy ∧ h.ly < b.hy ∧ b.lz < h.hz ∧ h.lz < b.hz)
def selB (l m : List Bx) (c : Bx) : Bool := (l.any fun a => containsB a c) && !(m.any fun h => opensB h c)
theorem opens_iff {h b : Bx} : opensB h b = true ↔ (b.lx < h.hx ∧ h.lx < b.hx ∧ b.ly < h.hy ∧ h.ly < b.hy ∧ b.lz < h.hz ∧ h.lz < b.hz) := by unfold opensB; exact decide_eq_true_iff
section
variable {l m : List Bx} {H : Bx} {A0 A1 A2 : List Int}

def cellsOf (l m : List Bx) (A0 A1 A2 : List Int) : List Bx := (rowA (pairsL A0) (pairsL A1) (pairsL A2)).filter (selB l m)

end

end Go.Proofs.YtkjljneehgmmaaaGreat

namespace Go.Proofs.YtkjljneehgmmaaaGreat

def thickB (b : Bx) : Bool := validB b && decide (b.lx < b.hx ∧ b.ly < b.hy ∧ b.lz < b.hz)
theorem thick_iff {b : Bx} : thickB b = true ↔ validB b = true ∧ (b.lx < b.hx ∧ b.ly < b.hy ∧ b.lz < b.hz) := by
 unfold thickB; rw [Bool.and_eq_true, decide_eq_true_iff]
theorem all_valid {l : List Bx} (h : l.all thickB = true) : l.all validB = true := by
 rw [List.all_eq_true] at h ⊢
 exact fun x hx => (thick_iff.1 (h x hx)).1
def containsS (l m : List Bx) (b : Bx) : Bool := !(m.any fun h => opensB h b) && coversB l b
def solidB (l m : List Bx) : Bool := decide (1 ≤ l.length) && decide (l.length ≤ 20) && decide (m.length ≤ 20) && l.all thickB && m.all thickB
theorem solid_iff {l m : List Bx} : solidB l m = true ↔ (1 ≤ l.length ∧ l.length ≤ 20) ∧ m.length ≤ 20 ∧ l.all thickB = true ∧ m.all thickB = true := by
 unfold solidB; simp only [Bool.and_eq_true, decide_eq_true_iff]; simp only [and_assoc]

theorem covers_sub {l : List Bx} {b c : Bx} (hb : b.lx ≤ b.hx ∧ b.ly ≤ b.hy ∧ b.lz ≤ b.hz) (hc : c.lx ≤ c.hx ∧ c.ly ≤ c.hy ∧ c.lz ≤ c.hz) (h : containsB b c = true) (h2 : coversB l b = true) : coversB l c = true := by
 rw [covers_iff hb.1 hb.2.1 hb.2.2] at h2
 rw [covers_iff hc.1 hc.2.1 hc.2.2]
 have := contains_iff.1 h
 intro P Q R ⟨hP, hQ, hR⟩
 exact h2 P Q R ⟨by omega, by omega, by omega⟩
theorem opens_sub {h b c : Bx} (hc : containsB b c = true) (ho : opensB h c = true) : opensB h b = true := by
 have := contains_iff.1 hc
 have := opens_iff.1 ho
 exact opens_iff.2 (by omega)
theorem containsS_iff {l m : List Bx} {b : Bx} : containsS l m b = true ↔ (∀ h ∈ m, opensB h b = false) ∧ coversB l b = true := by
 unfold containsS
 rw [Bool.and_eq_true, Bool.not_eq_true', List.any_eq_false]
 constructor
 ·intro ⟨h1, h2⟩; exact ⟨fun h hh => by simpa using h1 h hh, h2⟩
 ·intro ⟨h1, h2⟩; exact ⟨fun h hh => by simpa using h1 h hh, h2⟩
theorem containsS_sub {l m : List Bx} {b c : Bx} (hb : b.lx ≤ b.hx ∧ b.ly ≤ b.hy ∧ b.lz ≤ b.hz) (hc : c.lx ≤ c.hx ∧ c.ly ≤ c.hy ∧ c.lz ≤ c.hz) (h : containsB b c = true) (h2 : containsS l m b = true) : containsS l m c = true := by
 rw [containsS_iff] at h2 ⊢
 refine ⟨fun x hx => ?_, covers_sub hb hc h h2.2⟩
 cases ho : opensB x c
 ·rfl
 ·have := h2.1 x hx
  rw [opens_sub h ho] at this; cases this
end Go.Proofs.YtkjljneehgmmaaaGreat

namespace Go.Proofs.YtkjljneehgmmaaaGreat

end Go.Proofs.YtkjljneehgmmaaaGreat

namespace Go.Proofs.YtkjljneehgmmaaaGreat

end Go.Proofs.YtkjljneehgmmaaaGreat

namespace Go.Proofs.YtkjljneehgmmaaaGreat

section
variable {l m : List Bx} {P0 P1 P2 : List (Int × Int)} {p q : Int × Int} {a b c : Nat}
end

end Go.Proofs.YtkjljneehgmmaaaGreat


namespace Go.Proofs.YtkjljneehgmmaaaGreat
open Go.RowKit
set_option maxRecDepth 20000
set_option maxHeartbeats 2000000

theorem thick_val {b : Bx} (h : validB b = true) : thickB b = decide (b.lx < b.hx ∧ b.ly < b.hy ∧ b.lz < b.hz) := by unfold thickB; rw [h]; rfl

theorem thick_c (b : Bx) (w : World) : Calls Tryz.prog 226 #[(.agg #[.int .i64 b.lx, .int .i64 b.ly, .int .i64 b.lz, .int .i64 b.hx, .int .i64 b.hy, .int .i64 b.hz])] w (Ret w (.bool (thickB b))) := by
 cases hv : validB b
 ·have HR := hd0 (show thickB b = false by unfold thickB; rw [hv]; rfl)
  have HV := hd0 hv
  clear hv
  go_enter Tryz.func226, Tryz.ntmps226
  go_wp2_with fail
  go_at_call 29; refine (valid_v b _ HV.out _).mono ?_; rintro e w' ⟨rfl, x1, rfl⟩
  go_wp2
  go_ret
  rw [HR.out]
  exact Ret.of gro
 ·have HR := hd0 (thick_val hv)
  have HV := hd0 hv
  clear hv
  go_enter Tryz.func226, Tryz.ntmps226
  go_wp2_with fail
  go_at_call 29; refine (valid_v b _ HV.out _).mono ?_; rintro e w' ⟨rfl, x1, rfl⟩
  go_wp2
  all_goals
   go_ret
   rw [HR.out]
   exact Ret.bool (by first | (simp [*]; done) | (simp; omega)) gro
theorem refThick_c (b : Bx) (w : World) : Calls Tryz.prog 149 #[(.agg #[.int .i64 b.lx, .int .i64 b.ly, .int .i64 b.lz, .int .i64 b.hx, .int .i64 b.hy, .int .i64 b.hz])] w (Ret w (.bool (thickB b))) := by
 cases hv : validB b
 ·have HR := hd0 (show thickB b = false by unfold thickB; rw [hv]; rfl)
  have HV := hd0 hv
  clear hv
  go_enter Tryz.func149, Tryz.ntmps149
  go_wp2_with fail
  go_at_call 98; refine (refValid_c b _).mono ?_; rintro e w' ⟨rfl, x1, rfl⟩
  rw [HV.out]
  go_wp2
  go_ret
  rw [HR.out]
  exact Ret.of gro
 ·have HR := hd0 (thick_val hv)
  have HV := hd0 hv
  clear hv
  go_enter Tryz.func149, Tryz.ntmps149
  go_wp2_with fail
  go_at_call 98; refine (refValid_c b _).mono ?_; rintro e w' ⟨rfl, x1, rfl⟩
  rw [HV.out]
  go_wp2
  all_goals
   go_ret
   rw [HR.out]
   exact Ret.bool (by first | (simp [*]; done) | (simp; omega)) gro
theorem refThick_v (b : Bx) (r : Bool) (h : thickB b = r) (w : World) : Calls Tryz.prog 149 #[(.agg #[.int .i64 b.lx, .int .i64 b.ly, .int .i64 b.lz, .int .i64 b.hx, .int .i64 b.hy, .int .i64 b.hz])] w (Ret w (.bool r)) := by subst h; exact refThick_c b w

theorem valid1_c (b : Bx) (w : World) : Calls Tryz.prog 225 #[(.agg #[.int .i64 b.lx, .int .i64 b.ly, .int .i64 b.lz, .int .i64 b.hx, .int .i64 b.hy, .int .i64 b.hz])] w (Ret w (.bool (!thickB b))) := by
 go_enter Tryz.func225, Tryz.ntmps225
 go_wp2_with fail
 go_at_call 226; refine (thick_c b _).mono ?_; rintro e w' ⟨rfl, x1, rfl⟩
 go_wp2
 go_ret
 exact Ret.of gro
theorem enters_valid1 : Enters 225 := enters_of Tryz.func225 (by decide) (by simp [Tryz.f225])

theorem opens_c (h b : Bx) (w : World) : Calls Tryz.prog 268 #[(.agg #[.int .i64 h.lx, .int .i64 h.ly, .int .i64 h.lz, .int .i64 h.hx, .int .i64 h.hy, .int .i64 h.hz]), (.agg #[.int .i64 b.lx, .int .i64 b.ly, .int .i64 b.lz, .int .i64 b.hx, .int .i64 b.hy, .int .i64 b.hz])] w (Ret w (.bool (opensB h b))) := by
 go_enter Tryz.func268, Tryz.ntmps268
 go_wp2
 all_goals
  go_ret
  exact Ret.bool (by unfold opensB; first | (simp [*]; done) | (simp; omega)) gro

theorem any_thin (l : List Bx) : (l.any fun b => !thickB b) = !l.all thickB := by
 induction l with
 | nil => rfl
 | cons a l ih => rw [List.any_cons, List.all_cons, ih, Bool.not_and]
theorem thin_c (l : List Bx) (v : Value) (w : World) (hl : Boxes w v l) :
  Calls Tryz.prog 219 #[v, .func (.func 225) #[] #[]] w (Ret w (.bool (!l.all thickB))) := by
 rw [← any_thin]
 exact containsFunc_c 225 enters_valid1 #[] (fun b => !thickB b) l v w hl (fun b x _ => valid1_c b _)

theorem solidValid_c (l m : List Bx) (u t : Value) (w : World) (hl : Boxes w u l) (hm : Boxes w t m) : Calls Tryz.prog 178 #[.agg #[u, t]] w (Ret w (.bool (solidB l m))) := by
 obtain ⟨a, cap, rfl, hcap, hcap2, _⟩ := hl.shape
 obtain ⟨a', cap', rfl, hcap', hcap2', _⟩ := hm.shape
 have HL := hd0 hl
 have HM := hd0 hm
 clear hl hm
 by_cases h1 : 1 ≤ l.length ∧ l.length ≤ 20 ∧ m.length ≤ 20
 ·obtain ⟨h1, h2, h3⟩ := h1
  have d1 : decide ((1 : Int) ≤ (l.length : Int)) = true := by simp; omega
  have d2 : decide ((l.length : Int) ≤ 20) = true := by simp; omega
  have d3 : decide ((m.length : Int) ≤ 20) = true := by simp; omega
  have HR := hd0 (show solidB l m = (l.all thickB && m.all thickB) by unfold solidB; simp [h1, h2, h3])
  have HA := hd0 (fun w hl => thin_c l (.slice a l.length cap) w hl)
  have HB := hd0 (fun w hm => thin_c m (.slice a' m.length cap') w hm)
  clear h1 h2 h3
  generalize l.all thickB = p at *
  generalize m.all thickB = q at *
  cases p
  ·go_enter Tryz.func178, Tryz.ntmps178
   go_wp2_with fail
   go_at_call 219; refine (HA.out _ (HL.out.below gro)).mono ?_; rintro e w' ⟨rfl, x1, rfl⟩
   go_wp2
   go_ret
   rw [HR.out]
   exact Ret.of gro
  ·cases q
   all_goals
    go_enter Tryz.func178, Tryz.ntmps178
    go_wp2_with fail
    go_at_call 219; refine (HA.out _ (HL.out.below gro)).mono ?_; rintro e w' ⟨rfl, x1, rfl⟩
    go_wp2_with fail
    go_at_call 219; refine (HB.out _ (HM.out.below gro)).mono ?_; rintro e w' ⟨rfl, x2, rfl⟩
    go_wp2
    go_ret
    rw [HR.out]
    exact Ret.of gro
 ·have HR := hd0 (show solidB l m = false by
   cases hs : solidB l m
   ·rfl
   ·have := solid_iff.1 hs; omega)
  by_cases g1 : 1 ≤ l.length
  ·have d1 : decide ((1 : Int) ≤ (l.length : Int)) = true := by simp; omega
   by_cases g2 : l.length ≤ 20
   ·have d2 : decide ((l.length : Int) ≤ 20) = true := by simp; omega
    have d3 : decide ((m.length : Int) ≤ 20) = false := by simp; omega
    clear h1 g1 g2
    go_enter Tryz.func178, Tryz.ntmps178
    go_wp2
    go_ret
    rw [HR.out]
    exact Ret.of gro
   ·have d2 : decide ((l.length : Int) ≤ 20) = false := by simp; omega
    clear h1 g1 g2
    go_enter Tryz.func178, Tryz.ntmps178
    go_wp2
    go_ret
    rw [HR.out]
    exact Ret.of gro
  ·have d1 : decide ((1 : Int) ≤ (l.length : Int)) = false := by simp; omega
   clear h1 g1
   go_enter Tryz.func178, Tryz.ntmps178
   go_wp2
   go_ret
   rw [HR.out]
   exact Ret.of gro
theorem solidValid_v (l m : List Bx) (u t : Value) (r : Bool) (h : solidB l m = r) (w : World) (hl : Boxes w u l) (hm : Boxes w t m) : Calls Tryz.prog 178 #[.agg #[u, t]] w (Ret w (.bool r)) := by subst h; exact solidValid_c l m u t w hl hm

set_option maxHeartbeats 2000000
set_option maxRecDepth 100000

theorem refSolid_c (l m : List Bx) (u t : Value) (w : World) (hl : Boxes w u l) (hm : Boxes w t m) : Calls Tryz.prog 93 #[.agg #[u, t]] w (Ret w (.bool (solidB l m))) := by
 obtain ⟨a, cap, rfl, hcap, hcap2, hcell⟩ := hl.shape
 obtain ⟨a', cap', rfl, hcap', hcap2', hcell'⟩ := hm.shape
 have HL := hd0 hcell
 have HM := hd0 hcell'
 clear hl hm hcell hcell'
 by_cases h1 : 1 ≤ l.length ∧ l.length ≤ 20 ∧ m.length ≤ 20
 ·obtain ⟨h1, h2, h3⟩ := h1
  have d1 : decide ((l.length : Int) < 1) = false := by simp; omega
  have d2 : decide ((20 : Int) < (l.length : Int)) = false := by simp; omega
  have d3 : decide ((20 : Int) < (m.length : Int)) = false := by simp; omega
  have HR := hd0 (show solidB l m = (l.all thickB && m.all thickB) by unfold solidB; simp [h1, h2, h3])
  go_enter Tryz.func93, Tryz.ntmps93
  go_wp2_with fail
  go_loopw [3] (fun i wr => ∃ j : Nat, j ≤ l.length ∧ i = .int .i64 j ∧ (∃ x, wr = ext (w.alloc (.cells #[.slice a l.length cap, .slice a' m.length cap'] 24)) x) ∧ (l.take j).all thickB = true) (fun i _ => l.length - (intOf i).toNat)
  case atStart => exact ⟨0, by omega, rfl, ext_of (Below.refl _ _), by simp⟩
  case round =>
   obtain ⟨j, hj, rfl, ⟨x, rfl⟩, hall⟩ := hrel
   have HA := hd0 hall
   clear hall
   by_cases hlt : j < l.length
   ·obtain ⟨b, off, rfl, c0, c1, c2, c3, c4, c5⟩ := HL.out j hlt
    cases hv : thickB l[j]
    ·have hf := hd0 (show solidB l m = false by rw [HR.out, all_false_of hlt hv]; rfl)
     have HV := hd0 hv
     clear hv
     go_wp2_with fail
     go_at_call 149; refine (refThick_v l[j] _ HV.out _).mono ?_; rintro e w' ⟨rfl, y, rfl⟩
     go_wp2
     go_ret
     rw [hf.out]
     exact Ret.of gro
    ·have ht := hd0 (all_take_succ hlt hv HA.out)
     have HV := hd0 hv
     clear hv
     go_wp2_with fail
     go_at_call 149; refine (refThick_v l[j] _ HV.out _).mono ?_; rintro e w' ⟨rfl, y, rfl⟩
     go_wp2
     go_roundw
     case rel => exact ⟨j + 1, by omega, by go_num, ext_of gro, ht.out⟩
     case measure => simp [intOf]; omega
   ·have hal : l.all thickB = true := by
     have := HA.out
     rwa [List.take_of_length_le (by omega)] at this
    rw [hal, Bool.true_and] at HR
    clear hal HA
    obtain rfl : j = l.length := by omega
    go_wp2_with fail
    go_loopw [4] (fun i wr => ∃ j : Nat, j ≤ m.length ∧ i = .int .i64 j ∧ (∃ x, wr = ext (w.alloc (.cells #[.slice a l.length cap, .slice a' m.length cap'] 24)) x) ∧ (m.take j).all thickB = true) (fun i _ => m.length - (intOf i).toNat)
    case atStart => exact ⟨0, by omega, rfl, ext_of gro, by simp⟩
    case round =>
     clear hlt
     obtain ⟨j, hj, rfl, ⟨x, rfl⟩, hall⟩ := hrel
     have HA := hd0 hall
     clear hall
     by_cases hlt : j < m.length
     ·obtain ⟨b, off, rfl, c0, c1, c2, c3, c4, c5⟩ := HM.out j hlt
      cases hv : thickB m[j]
      ·have hf := hd0 (show solidB l m = false by rw [HR.out, all_false_of hlt hv])
       have HV := hd0 hv
       clear hv
       go_wp2_with fail
       go_at_call 149; refine (refThick_v m[j] _ HV.out _).mono ?_; rintro e w' ⟨rfl, y, rfl⟩
       go_wp2
       go_ret
       rw [hf.out]
       exact Ret.of gro
      ·have ht := hd0 (all_take_succ hlt hv HA.out)
       have HV := hd0 hv
       clear hv
       go_wp2_with fail
       go_at_call 149; refine (refThick_v m[j] _ HV.out _).mono ?_; rintro e w' ⟨rfl, y, rfl⟩
       go_wp2
       go_roundw
       case rel => exact ⟨j + 1, by omega, by go_num, ext_of gro, ht.out⟩
       case measure => simp [intOf]; omega
     ·have hal : m.all thickB = true := by
       have := HA.out
       rwa [List.take_of_length_le (by omega)] at this
      rw [hal] at HR
      clear hal HA
      go_wp2
      go_ret
      rw [HR.out]
      exact Ret.of gro
 ·have HR := hd0 (show solidB l m = false by
   cases hs : solidB l m
   ·rfl
   ·have := solid_iff.1 hs; omega)
  by_cases g1 : 1 ≤ l.length
  ·have d1 : decide ((l.length : Int) < 1) = false := by simp; omega
   by_cases g2 : l.length ≤ 20
   ·have d2 : decide ((20 : Int) < (l.length : Int)) = false := by simp; omega
    have d3 : decide ((20 : Int) < (m.length : Int)) = true := by simp; omega
    clear h1 g1 g2
    go_enter Tryz.func93, Tryz.ntmps93
    go_wp2
    go_ret
    rw [HR.out]
    exact Ret.of gro
   ·have d2 : decide ((20 : Int) < (l.length : Int)) = true := by simp; omega
    clear h1 g1 g2
    go_enter Tryz.func93, Tryz.ntmps93
    go_wp2
    go_ret
    rw [HR.out]
    exact Ret.of gro
  ·have d1 : decide ((l.length : Int) < 1) = true := by simp; omega
   clear h1 g1
   go_enter Tryz.func93, Tryz.ntmps93
   go_wp2
   go_ret
   rw [HR.out]
   exact Ret.of gro
theorem refSolid_v (l m : List Bx) (u t : Value) (r : Bool) (h : solidB l m = r) (w : World) (hl : Boxes w u l) (hm : Boxes w t m) : Calls Tryz.prog 93 #[.agg #[u, t]] w (Ret w (.bool r)) := by subst h; exact refSolid_c l m u t w hl hm

def hullS (l m : List Bx) : Bx × Int := if solidB l m = true then (hullX l, 0) else (zeroX, 1)
theorem hullR_ok {l m : List Bx} (h : solidB l m = true) : hullR l = (hullX l, 0) := by
 have := solid_iff.1 h
 unfold hullR
 rw [if_pos (all_valid this.2.2.1), if_pos (by omega)]

theorem solidHull_c (l m : List Bx) (u t : Value) (w : World) (hl : Boxes w u l) (hm : Boxes w t m) : Calls Tryz.prog 242 #[.agg #[u, t]] w (Ret w (.tuple #[(.agg #[.int .i64 (hullS l m).1.lx, .int .i64 (hullS l m).1.ly, .int .i64 (hullS l m).1.lz, .int .i64 (hullS l m).1.hx, .int .i64 (hullS l m).1.hy, .int .i64 (hullS l m).1.hz]), .int .i64 (hullS l m).2])) := by
 have HL := hd0 hl
 have HM := hd0 hm
 clear hl hm
 cases hv : solidB l m
 ·have HR := hd0 (show hullS l m = (zeroX, 1) by unfold hullS; rw [hv]; rfl)
  have HV := hd0 hv
  clear hv
  go_enter Tryz.func242, Tryz.ntmps242
  go_wp2_with fail
  go_at_call 178; refine (solidValid_v l m _ _ _ HV.out _ (HL.out.below gro) (HM.out.below gro)).mono ?_; rintro e w' ⟨rfl, x1, rfl⟩
  go_wp2
  rw [HR.out]
  refine bodyPost_ret (v := .tuple #[(.agg #[.int .i64 zeroX.lx, .int .i64 zeroX.ly, .int .i64 zeroX.lz, .int .i64 zeroX.hx, .int .i64 zeroX.hy, .int .i64 zeroX.hz]), .int .i64 1]) (by simp [results, Tryz.results242, go_sem, zeroX]) rfl ?_
  exact Ret.of gro
 ·have HR := hd0 (show hullS l m = (hullX l, 0) by unfold hullS; rw [hv]; rfl)
  have HH := hd0 (fun w hl => Hull_c l u w hl)
  rw [hullR_ok hv] at HH
  have HV := hd0 hv
  clear hv
  go_enter Tryz.func242, Tryz.ntmps242
  go_wp2_with fail
  go_at_call 178; refine (solidValid_v l m _ _ _ HV.out _ (HL.out.below gro) (HM.out.below gro)).mono ?_; rintro e w' ⟨rfl, x1, rfl⟩
  go_wp2_with fail
  go_at_call 129; refine (HH.out _ (HL.out.below gro)).mono ?_; rintro e w' ⟨rfl, x2, rfl⟩
  go_wp2
  rw [HR.out]
  refine bodyPost_ret (v := .tuple #[(.agg #[.int .i64 (hullX l).lx, .int .i64 (hullX l).ly, .int .i64 (hullX l).lz, .int .i64 (hullX l).hx, .int .i64 (hullX l).hy, .int .i64 (hullX l).hz]), .int .i64 0]) (by simp [results, Tryz.results242, go_sem]) rfl ?_
  exact Ret.of gro

theorem contains1_c (h b : Bx) (g : Nat) (w : World) (hb : BoxAt w g 0 b) : Calls Tryz.prog 267 #[(.agg #[.int .i64 h.lx, .int .i64 h.ly, .int .i64 h.lz, .int .i64 h.hx, .int .i64 h.hy, .int .i64 h.hz]), .pointer (some ⟨g, 0, none⟩)] w (Ret w (.bool (opensB h b))) := by
 obtain ⟨c0, c1, c2, c3, c4, c5⟩ := hb
 simp only [Nat.zero_add] at c1 c2 c3 c4 c5
 go_enter Tryz.func267, Tryz.ntmps267
 go_wp2_with fail
 go_at_call 268; refine (opens_c h b _).mono ?_; rintro e w' ⟨rfl, x1, rfl⟩
 go_wp2
 go_ret
 exact Ret.of gro
theorem enters_contains1 : Enters 267 := enters_of Tryz.func267 (by decide) (by simp [Tryz.f267])

def containsR17 (l m : List Bx) (b : Bx) : Bool × Int := if solidB l m = true ∧ validB b = true then (containsS l m b, 0) else (false, 1)
theorem covers_ok {l m : List Bx} {b : Bx} (h : solidB l m = true) (hb : validB b = true) : coversV l b = (coversB l b, 0) := by
 have := solid_iff.1 h
 unfold coversV
 rw [if_pos ⟨all_valid this.2.2.1, hb⟩, if_pos (by omega)]

theorem solidContains_c (l m : List Bx) (u t : Value) (b : Bx) (w : World) (hl : Boxes w u l) (hm : Boxes w t m) :
  Calls Tryz.prog 264 #[.agg #[u, t], (.agg #[.int .i64 b.lx, .int .i64 b.ly, .int .i64 b.lz, .int .i64 b.hx, .int .i64 b.hy, .int .i64 b.hz])] w (Ret w (.tuple #[.bool (containsR17 l m b).1, .int .i64 (containsR17 l m b).2])) := by
 have HL := hd0 hl
 have HM := hd0 hm
 clear hl hm
 cases hv : solidB l m
 ·have HR := hd0 (show containsR17 l m b = (false, 1) by unfold containsR17; rw [hv]; simp)
  have HV := hd0 hv
  clear hv
  go_enter Tryz.func264, Tryz.ntmps264
  go_wp2_with fail
  go_at_call 178; refine (solidValid_v l m _ _ _ HV.out _ (HL.out.below gro) (HM.out.below gro)).mono ?_; rintro e w' ⟨rfl, x1, rfl⟩
  go_wp2
  go_ret2
  rw [HR.out]
  exact Ret.of gro
 cases hb : validB b
 ·have HR := hd0 (show containsR17 l m b = (false, 1) by unfold containsR17; rw [hb]; simp)
  have HV := hd0 hv
  have HB := hd0 hb
  clear hv hb
  go_enter Tryz.func264, Tryz.ntmps264
  go_wp2_with fail
  go_at_call 178; refine (solidValid_v l m _ _ _ HV.out _ (HL.out.below gro) (HM.out.below gro)).mono ?_; rintro e w' ⟨rfl, x1, rfl⟩
  go_wp2_with fail
  go_at_call 29; refine (valid_v b _ HB.out _).mono ?_; rintro e w' ⟨rfl, x2, rfl⟩
  go_wp2
  go_ret2
  rw [HR.out]
  exact Ret.of gro
 cases ho : m.any fun h => opensB h b
 ·have HR := hd0 (show containsR17 l m b = (coversB l b, 0) by unfold containsR17 containsS; rw [hv, hb, ho]; simp)
  have HC := hd0 (fun w hl => Covers_c l u b w hl)
  rw [covers_ok hv hb] at HC
  have HV := hd0 hv
  have HB := hd0 hb
  have HO := hd0 ho
  clear hv hb ho
  go_enter Tryz.func264, Tryz.ntmps264
  go_wp2_with fail
  go_at_call 178; refine (solidValid_v l m _ _ _ HV.out _ (HL.out.below gro) (HM.out.below gro)).mono ?_; rintro e w' ⟨rfl, x1, rfl⟩
  go_wp2_with fail
  go_at_call 29; refine (valid_v b _ HB.out _).mono ?_; rintro e w' ⟨rfl, x2, rfl⟩
  go_wp2_with fail
  go_at_call 219
  refine Calls.mono (containsFunc_c 267 enters_contains1 #[.pointer (some ⟨w.heap.size + 1, 0, none⟩)] (fun h => opensB h b) m _ _ (HM.out.below gro) (fun h y _ => contains1_c h b (w.heap.size + 1) _ (by simp [BoxAt, go_sem]))) ?_
  rintro e w' ⟨rfl, x3, rfl⟩
  rw [HO.out]
  go_wp2_with fail
  go_at_call 269; refine (HC.out _ (HL.out.below gro)).mono ?_; rintro e w' ⟨rfl, x4, rfl⟩
  go_wp2
  go_ret2
  rw [HR.out]
  exact Ret.of gro
 ·have HR := hd0 (show containsR17 l m b = (false, 0) by unfold containsR17 containsS; rw [hv, hb, ho]; simp)
  have HV := hd0 hv
  have HB := hd0 hb
  have HO := hd0 ho
  clear hv hb ho
  go_enter Tryz.func264, Tryz.ntmps264
  go_wp2_with fail
  go_at_call 178; refine (solidValid_v l m _ _ _ HV.out _ (HL.out.below gro) (HM.out.below gro)).mono ?_; rintro e w' ⟨rfl, x1, rfl⟩
  go_wp2_with fail
  go_at_call 29; refine (valid_v b _ HB.out _).mono ?_; rintro e w' ⟨rfl, x2, rfl⟩
  go_wp2_with fail
  go_at_call 219
  refine Calls.mono (containsFunc_c 267 enters_contains1 #[.pointer (some ⟨w.heap.size + 1, 0, none⟩)] (fun h => opensB h b) m _ _ (HM.out.below gro) (fun h y _ => contains1_c h b (w.heap.size + 1) _ (by simp [BoxAt, go_sem]))) ?_
  rintro e w' ⟨rfl, x3, rfl⟩
  rw [HO.out]
  go_wp2
  go_ret2
  rw [HR.out]
  exact Ret.of gro
theorem solidContains_v (l m : List Bx) (u t : Value) (b : Bx) (r : Bool × Int) (h : containsR17 l m b = r) (w : World) (hl : Boxes w u l) (hm : Boxes w t m) :
  Calls Tryz.prog 264 #[.agg #[u, t], (.agg #[.int .i64 b.lx, .int .i64 b.ly, .int .i64 b.lz, .int .i64 b.hx, .int .i64 b.hy, .int .i64 b.hz])] w (Ret w (.tuple #[.bool r.1, .int .i64 r.2])) := by subst h; exact solidContains_c l m u t b w hl hm

set_option maxHeartbeats 2000000
set_option maxRecDepth 100000

theorem run_append_none {P : Program} (w : World) (base : Nat) (t ty e : TypeId) (i : TypeInfo) (size c : Nat) (ht : P.underlying t = some (.slice e)) (hi : P.info? e = some i)
  (v : Value) (n : Nat) (xs : List Value) (hown : w.ownsRow base e size v n xs) :
  (Builtin.append_ #[t, t] ty #[v, .slice none 0 c]).run P w = .ok v w := by
 rcases hown.2 with ⟨rfl, rfl⟩ | ⟨g, cap, cur, rfl, _, _, hnc, _⟩
 ·simp [Builtin.append_, run_underlying ht, sizeOf, typeInfo, hi, Builtin.lenOf, Builtin.firstCells]
 ·simp [Builtin.append_, run_underlying ht, sizeOf, typeInfo, hi, Builtin.lenOf, Builtin.firstCells, hnc, storeCells]

theorem app_any {P : Program} {ops : Array Oper} {rest : List Oper} {o : Oper} {a : Act} {Q : Exit → Act → World → Prop} (hgd : o.guard = none) (s x : Operand) (t : TypeId)
  (ho : o.op = .call { callee := .builtin .append, args := #[s, x], argTypes := #[t, t] })
  (e : TypeId) (z : Value) (size bytes : Nat) (ht : P.underlying t = some (.slice e)) (hi : (P.info? e).map (fun i => (i.zero, i.size, i.bytes)) = some (some z, size, bytes)) (hzs : z.cells.size = size) (hsz : 0 < size)
  (B : World) (v : Value) (n : Nat) (xs : List Value) (w : World) (hs : a.eval s = v) (hown : w.ownsRow B.heap.size e size v n xs)
  (ad : Option Addr) (m c : Nat) (news : List Value) (hx : a.eval x = .slice ad m c) (hl : news.length = m * size) (hnil : ad = none → m = 0) (hnews : ∀ a', ad = some a' → ∀ j u, news[j]? = some u → w.cell? (a'.add j) = some u) (h1 : ∀ u ∈ news, u.oneCell' = true)
  (hroom : (n + m) * bytes ≤ 140737488355328) (hby : 0 < bytes) (hB : Below B.heap.size B w)
  (h : ∀ v' y, (ext B y).ownsRow B.heap.size e size v' (n + m) (xs ++ news) → w.grownBy (ext B y) v.ownBlock → wpList P ops Q rest (a.put o.dst v') (ext B y)) : wpList P ops Q (o :: rest) a w := by
 cases ad with
 | some ad => exact app_own_at hgd s x t ho e z size bytes ht hi hzs hsz B v n xs w hs hown ad m c news hx hl (hnews ad rfl) h1 hroom hby hB h
 | none =>
   obtain rfl := hnil rfl
   obtain ⟨i0, hi, hz0, hz1, hz2⟩ := info_parts hi
   have hn0 : news = [] := List.eq_nil_of_length_eq_zero (by omega)
   subst hn0
   refine Lib.wpList_append_run w hgd s x t t ho v _ hs hx v w (run_append_none w B.heap.size t o.type e i0 size c ht hi v n xs hown) ?_
   obtain ⟨y, hy⟩ := ext_of hB
   rw [hy]
   exact h v y (by rw [← hy]; simpa using hown) (by rw [← hy]; exact ⟨rfl, rfl, rfl, Nat.le_refl _, fun _ _ _ => rfl⟩)

theorem Boxes.slice {w : World} {v : Value} {l : List Bx} (h : Boxes w v l) : ∃ a cap, v = .slice a l.length cap ∧ l.length ≤ cap ∧ cap ≤ 9223372036854775807 ∧ (a = none → l.length = 0) ∧ ∀ a', a = some a' → ∀ j u, (boxCells l)[j]? = some u → w.cell? (a'.add j) = some u := by
 obtain ⟨a, cap, rfl, h1, h2, h3⟩ := h.shape
 refine ⟨a, cap, rfl, h1, h2, fun ha => ?_, fun a' ha => ?_⟩
 ·subst ha
  rcases Nat.eq_zero_or_pos l.length with e | e
  ·exact e
  ·obtain ⟨_, _, e', _⟩ := h3 0 e; cases e'
 ·subst ha; exact h.cells

end Go.Proofs.YtkjljneehgmmaaaGreat



/- BoxA, BoxB, BoxC, BoxD, BoxE in one text. -/
import Derived.Test.YtkjljneehgmmaaaGreatExtK
namespace Go.Proofs.YtkjljneehgmmaaaGreat
open Go.RowKit
set_option maxRecDepth 20000
set_option maxHeartbeats 1000000

structure Bx where
 lx : Int
 ly : Int
 lz : Int
 hx : Int
 hy : Int
 hz : Int

theorem Ret.bool {w w' : World} {b c : Bool} (h : b = c) (hb : Below w.heap.size w w') : Ret w (.bool c) (.returned (.bool b)) w' := by
 subst h; exact Ret.of hb
theorem Ret.int {w w' : World} {k : IntKind} {b c : Int} (h : b = c) (hb : Below w.heap.size w w') : Ret w (.int k c) (.returned (.int k b)) w' := by
 subst h; exact Ret.of hb
theorem Ret.val {w w' : World} {b c : Value} (h : b = c) (hb : Below w.heap.size w w') : Ret w c (.returned b) w' := by
 subst h; exact Ret.of hb

theorem coords_c (x y z : Int) (w : World) :
  Calls Tryz.prog 131 #[.agg #[.int .i64 x, .int .i64 y, .int .i64 z]] w (Ret w (.agg #[.int .i64 x, .int .i64 y, .int .i64 z])) := by
 go_enter Tryz.func131, Tryz.ntmps131
 go_wp2
 refine bodyPost_ret (v := .agg #[.int .i64 x, .int .i64 y, .int .i64 z]) (by simp [results, Tryz.results131, go_sem]) rfl ?_
 exact Ret.of gro

theorem idx3_0 (x y z : Value) (w : World) : (Instr.index 212 (.agg #[x, y, z]) (.int .i64 0)).run Tryz.prog w = .ok x w := by kernel_rfl
theorem idx3_1 (x y z : Value) (w : World) : (Instr.index 212 (.agg #[x, y, z]) (.int .i64 1)).run Tryz.prog w = .ok y w := by kernel_rfl
theorem idx3_2 (x y z : Value) (w : World) : (Instr.index 212 (.agg #[x, y, z]) (.int .i64 2)).run Tryz.prog w = .ok z w := by kernel_rfl
attribute [go_sem] idx3_0 idx3_1 idx3_2

def Bx.lo (b : Bx) (k : Int) : Int := if k = 0 then b.lx else if k = 1 then b.ly else b.lz
def Bx.hi (b : Bx) (k : Int) : Int := if k = 0 then b.hx else if k = 1 then b.hy else b.hz

theorem ends_c (b : Bx) (k : Int) (h : 0 ≤ k ∧ k ≤ 2) (w : World) :
  Calls Tryz.prog 70 #[(.agg #[.int .i64 b.lx, .int .i64 b.ly, .int .i64 b.lz, .int .i64 b.hx, .int .i64 b.hy, .int .i64 b.hz]), .int .i64 k] w (Ret w (.tuple #[.int .i64 (b.lo k), .int .i64 (b.hi k)])) := by
 have hk : k = 0 ∨ k = 1 ∨ k = 2 := by omega
 rcases hk with rfl | rfl | rfl
 all_goals
  clear h
  simp only [Bx.lo, Bx.hi]
  go_enter Tryz.func70, Tryz.ntmps70
  go_wp2
  refine wp_region_grows (by kernel_rfl) (by kernel_rfl) ?_
  repeat (go_big_quiet_step ((go_at_call 131; exact Calls.quiet_ext (coords_c _ _ _ _))))
  refine wpQuiet_nil ?_; rintro _ ⟨xq, rfl⟩
  go_wp2
  go_ret2
  exact Ret.of gro

def validB (b : Bx) : Bool := decide (-1048576 ≤ b.lx ∧ b.lx ≤ b.hx ∧ b.hx ≤ 1048576 ∧ -1048576 ≤ b.ly ∧ b.ly ≤ b.hy ∧ b.hy ≤ 1048576 ∧ -1048576 ≤ b.lz ∧ b.lz ≤ b.hz ∧ b.hz ≤ 1048576)

theorem ends0_c (b : Bx) (w : World) : Calls Tryz.prog 70 #[(.agg #[.int .i64 b.lx, .int .i64 b.ly, .int .i64 b.lz, .int .i64 b.hx, .int .i64 b.hy, .int .i64 b.hz]), .int .i64 0] w (Ret w (.tuple #[.int .i64 b.lx, .int .i64 b.hx])) := ends_c b 0 (by omega) w
theorem ends1_c (b : Bx) (w : World) : Calls Tryz.prog 70 #[(.agg #[.int .i64 b.lx, .int .i64 b.ly, .int .i64 b.lz, .int .i64 b.hx, .int .i64 b.hy, .int .i64 b.hz]), .int .i64 1] w (Ret w (.tuple #[.int .i64 b.ly, .int .i64 b.hy])) := ends_c b 1 (by omega) w
theorem ends2_c (b : Bx) (w : World) : Calls Tryz.prog 70 #[(.agg #[.int .i64 b.lx, .int .i64 b.ly, .int .i64 b.lz, .int .i64 b.hx, .int .i64 b.hy, .int .i64 b.hz]), .int .i64 2] w (Ret w (.tuple #[.int .i64 b.lz, .int .i64 b.hz])) := ends_c b 2 (by omega) w

theorem valid_c (b : Bx) (w : World) :
  Calls Tryz.prog 29 #[(.agg #[.int .i64 b.lx, .int .i64 b.ly, .int .i64 b.lz, .int .i64 b.hx, .int .i64 b.hy, .int .i64 b.hz])] w (Ret w (.bool (validB b))) := by
 go_enter Tryz.func29, Tryz.ntmps29
 go_wp2
 refine wp_loop_rounds 4 ?_
 rw [rounds_succ]
 go_wp2_with (go_at_call 70; refine (ends0_c b _).mono ?_; rintro e w' ⟨rfl, x, rfl⟩)
 all_goals first | (go_ret; exact Ret.bool (by unfold validB; simp; omega) gro) | rw [rounds_succ]
 go_wp2_with (go_at_call 70; refine (ends1_c b _).mono ?_; rintro e w' ⟨rfl, x, rfl⟩)
 all_goals first | (go_ret; exact Ret.bool (by unfold validB; simp; omega) gro) | rw [rounds_succ]
 go_wp2_with (go_at_call 70; refine (ends2_c b _).mono ?_; rintro e w' ⟨rfl, x, rfl⟩)
 all_goals first | (go_ret; exact Ret.bool (by unfold validB; simp; omega) gro) | rw [rounds_succ]
 go_wp2
 go_ret
 exact Ret.bool (by unfold validB; simp; omega) gro


def Bd (b : Bx) : Prop := (-1099511627776 ≤ b.lx ∧ b.lx ≤ 1099511627776) ∧ (-1099511627776 ≤ b.ly ∧ b.ly ≤ 1099511627776) ∧ (-1099511627776 ≤ b.lz ∧ b.lz ≤ 1099511627776) ∧ (-1099511627776 ≤ b.hx ∧ b.hx ≤ 1099511627776) ∧ (-1099511627776 ≤ b.hy ∧ b.hy ≤ 1099511627776) ∧ (-1099511627776 ≤ b.hz ∧ b.hz ≤ 1099511627776)

theorem valid_iff {b : Bx} : validB b = true ↔ (-1048576 ≤ b.lx ∧ b.lx ≤ b.hx ∧ b.hx ≤ 1048576 ∧ -1048576 ≤ b.ly ∧ b.ly ≤ b.hy ∧ b.hy ≤ 1048576 ∧ -1048576 ≤ b.lz ∧ b.lz ≤ b.hz ∧ b.hz ≤ 1048576) := by
 unfold validB; exact decide_eq_true_iff
theorem Bd.of_valid {b : Bx} (h : validB b = true) : Bd b := by
 have := valid_iff.1 h; unfold Bd; omega

theorem valid_v (b : Bx) (r : Bool) (h : validB b = r) (w : World) : Calls Tryz.prog 29 #[(.agg #[.int .i64 b.lx, .int .i64 b.ly, .int .i64 b.lz, .int .i64 b.hx, .int .i64 b.hy, .int .i64 b.hz])] w (Ret w (.bool r)) := by
 subst h; exact valid_c b w

def alongI (a b : Bx) (k : Int) : Int := max (b.lo k - a.hi k) (a.lo k - b.hi k)

theorem Bd.lo {b : Bx} (h : Bd b) (k : Int) : -1099511627776 ≤ b.lo k ∧ b.lo k ≤ 1099511627776 := by
 unfold Bd at h; unfold Bx.lo; split <;> (try split) <;> omega
theorem Bd.hi {b : Bx} (h : Bd b) (k : Int) : -1099511627776 ≤ b.hi k ∧ b.hi k ≤ 1099511627776 := by
 unfold Bd at h; unfold Bx.hi; split <;> (try split) <;> omega

set_option maxHeartbeats 400000 in
theorem along_c (a b : Bx) (k : Int) (h : 0 ≤ k ∧ k ≤ 2) (ha : Bd a) (hb : Bd b) (w : World) :
  Calls Tryz.prog 187 #[(.agg #[.int .i64 a.lx, .int .i64 a.ly, .int .i64 a.lz, .int .i64 a.hx, .int .i64 a.hy, .int .i64 a.hz]), (.agg #[.int .i64 b.lx, .int .i64 b.ly, .int .i64 b.lz, .int .i64 b.hx, .int .i64 b.hy, .int .i64 b.hz]), .int .i64 k] w (Ret w (.int .i64 (alongI a b k))) := by
 have h1 := ha.lo k
 have h2 := ha.hi k
 have h3 := hb.lo k
 have h4 := hb.hi k
 clear ha hb
 go_enter Tryz.func187, Tryz.ntmps187
 go_wp2_with fail
 go_at_call 70; refine (ends_c a k h _).mono ?_; rintro e w' ⟨rfl, x, rfl⟩
 go_wp2_with fail
 go_at_call 70; refine (ends_c b k h _).mono ?_; rintro e w' ⟨rfl, x, rfl⟩
 go_wp2
 go_ret
 exact Ret.int (by unfold alongI; rfl) gro

set_option maxHeartbeats 1000000

def containsB (a b : Bx) : Bool := decide (a.lx ≤ b.lx ∧ b.hx ≤ a.hx ∧ a.ly ≤ b.ly ∧ b.hy ≤ a.hy ∧ a.lz ≤ b.lz ∧ b.hz ≤ a.hz)
theorem contains_iff {a b : Bx} : containsB a b = true ↔ (a.lx ≤ b.lx ∧ b.hx ≤ a.hx ∧ a.ly ≤ b.ly ∧ b.hy ≤ a.hy ∧ a.lz ≤ b.lz ∧ b.hz ≤ a.hz) := by
 unfold containsB; exact decide_eq_true_iff

theorem contains_c (a b : Bx) (w : World) :
  Calls Tryz.prog 251 #[(.agg #[.int .i64 a.lx, .int .i64 a.ly, .int .i64 a.lz, .int .i64 a.hx, .int .i64 a.hy, .int .i64 a.hz]), (.agg #[.int .i64 b.lx, .int .i64 b.ly, .int .i64 b.lz, .int .i64 b.hx, .int .i64 b.hy, .int .i64 b.hz])] w (Ret w (.bool (containsB a b))) := by
 go_enter Tryz.func251, Tryz.ntmps251
 go_wp2
 refine wp_loop_rounds 4 ?_
 rw [rounds_succ]
 go_wp2_with fail
 go_at_call 70; refine (ends0_c a _).mono ?_; rintro e w' ⟨rfl, x, rfl⟩
 go_wp2_with fail
 go_at_call 70; refine (ends0_c b _).mono ?_; rintro e w' ⟨rfl, x, rfl⟩
 go_wp2_with fail
 all_goals first | (go_ret; exact Ret.bool (by unfold containsB; simp; omega) gro) | rw [rounds_succ]
 go_wp2_with fail
 go_at_call 70; refine (ends1_c a _).mono ?_; rintro e w' ⟨rfl, x, rfl⟩
 go_wp2_with fail
 go_at_call 70; refine (ends1_c b _).mono ?_; rintro e w' ⟨rfl, x, rfl⟩
 go_wp2_with fail
 all_goals first | (go_ret; exact Ret.bool (by unfold containsB; simp; omega) gro) | rw [rounds_succ]
 go_wp2_with fail
 go_at_call 70; refine (ends2_c a _).mono ?_; rintro e w' ⟨rfl, x, rfl⟩
 go_wp2_with fail
 go_at_call 70; refine (ends2_c b _).mono ?_; rintro e w' ⟨rfl, x, rfl⟩
 go_wp2_with fail
 all_goals first | (go_ret; exact Ret.bool (by unfold containsB; simp; omega) gro) | rw [rounds_succ]
 go_wp2
 go_ret
 exact Ret.bool (by unfold containsB; simp; omega) gro

theorem Contains_ok (a b : Bx) (ha : validB a = true) (hb : validB b = true) (w : World) :
  Calls Tryz.prog 222 #[(.agg #[.int .i64 a.lx, .int .i64 a.ly, .int .i64 a.lz, .int .i64 a.hx, .int .i64 a.hy, .int .i64 a.hz]), (.agg #[.int .i64 b.lx, .int .i64 b.ly, .int .i64 b.lz, .int .i64 b.hx, .int .i64 b.hy, .int .i64 b.hz])] w (Ret w (.tuple #[.bool (containsB a b), .int .i64 0])) := by
 go_enter Tryz.func222, Tryz.ntmps222
 go_wp2_with fail
 go_at_call 29; refine (valid_v a _ ha _).mono ?_; rintro e w' ⟨rfl, x, rfl⟩
 go_wp2_with fail
 go_at_call 29; refine (valid_v b _ hb _).mono ?_; rintro e w' ⟨rfl, x, rfl⟩
 go_wp2_with fail
 go_at_call 251; refine (contains_c a b _).mono ?_; rintro e w' ⟨rfl, x, rfl⟩
 go_wp2
 go_ret2
 exact Ret.of gro

set_option maxHeartbeats 400000

def zeroX : Bx := ⟨0, 0, 0, 0, 0, 0⟩
def grownX (b : Bx) (n : Int) : Bx := ⟨b.lx - n, b.ly - n, b.lz - n, b.hx + n, b.hy + n, b.hz + n⟩
def grownR (b : Bx) (n : Int) : Bx × Int :=
 if validB b = false then (zeroX, 1) else if n < 0 ∨ 1048576 < n then (zeroX, 2) else if validB (grownX b n) = false then (zeroX, 2) else (grownX b n, 0)

theorem Grown_arg (b : Bx) (n : Int) (h : validB b = false) (w : World) :
  Calls Tryz.prog 258 #[(.agg #[.int .i64 b.lx, .int .i64 b.ly, .int .i64 b.lz, .int .i64 b.hx, .int .i64 b.hy, .int .i64 b.hz]), .int .i64 n] w (Ret w (.tuple #[(.agg #[.int .i64 0, .int .i64 0, .int .i64 0, .int .i64 0, .int .i64 0, .int .i64 0]), .int .i64 1])) := by
 go_enter Tryz.func258, Tryz.ntmps258
 go_wp2_with fail
 go_at_call 29; refine (valid_v b _ h _).mono ?_; rintro e w' ⟨rfl, x, rfl⟩
 go_wp2
 refine bodyPost_ret (v := .tuple #[(.agg #[.int .i64 0, .int .i64 0, .int .i64 0, .int .i64 0, .int .i64 0, .int .i64 0]), .int .i64 1]) (by simp [results, Tryz.results258, go_sem]) rfl ?_
 exact Ret.of gro

theorem Grown_range (b : Bx) (n : Int) (h : validB b = true) (hn : n < 0 ∨ 1048576 < n) (w : World) :
  Calls Tryz.prog 258 #[(.agg #[.int .i64 b.lx, .int .i64 b.ly, .int .i64 b.lz, .int .i64 b.hx, .int .i64 b.hy, .int .i64 b.hz]), .int .i64 n] w (Ret w (.tuple #[(.agg #[.int .i64 0, .int .i64 0, .int .i64 0, .int .i64 0, .int .i64 0, .int .i64 0]), .int .i64 2])) := by
 rcases hn with hn | hn
 all_goals
  go_enter Tryz.func258, Tryz.ntmps258
  go_wp2_with fail
  go_at_call 29; refine (valid_v b _ h _).mono ?_; rintro e w' ⟨rfl, x, rfl⟩
  go_wp2
  refine bodyPost_ret (v := .tuple #[(.agg #[.int .i64 0, .int .i64 0, .int .i64 0, .int .i64 0, .int .i64 0, .int .i64 0]), .int .i64 2]) (by simp [results, Tryz.results258, go_sem]) rfl ?_
  exact Ret.of gro

theorem Grown_in (b : Bx) (n : Int) (r : Bool) (h : validB b = true) (hn : 0 ≤ n ∧ n ≤ 1048576) (hr : validB (grownX b n) = r) (w : World) :
  Calls Tryz.prog 258 #[(.agg #[.int .i64 b.lx, .int .i64 b.ly, .int .i64 b.lz, .int .i64 b.hx, .int .i64 b.hy, .int .i64 b.hz]), .int .i64 n] w (Ret w (.tuple (if r = true then #[(.agg #[.int .i64 (grownX b n).lx, .int .i64 (grownX b n).ly, .int .i64 (grownX b n).lz, .int .i64 (grownX b n).hx, .int .i64 (grownX b n).hy, .int .i64 (grownX b n).hz]), .int .i64 0] else #[(.agg #[.int .i64 0, .int .i64 0, .int .i64 0, .int .i64 0, .int .i64 0, .int .i64 0]), .int .i64 2]))) := by
 have hv := valid_iff.1 h
 have H := hd0 h
 have HR := hd0 hr
 clear h hr
 cases r
 ·go_enter Tryz.func258, Tryz.ntmps258
  go_wp2_with fail
  go_at_call 29; refine (valid_v b _ H.out _).mono ?_; rintro e w' ⟨rfl, x, rfl⟩
  go_wp2_with fail
  go_at_call 29; refine (valid_v (grownX b n) _ HR.out _).mono ?_; rintro e w' ⟨rfl, x, rfl⟩
  go_wp2
  refine bodyPost_ret (v := .tuple #[(.agg #[.int .i64 0, .int .i64 0, .int .i64 0, .int .i64 0, .int .i64 0, .int .i64 0]), .int .i64 2]) (by simp [results, Tryz.results258, go_sem]) rfl ?_
  exact Ret.of gro
 ·go_enter Tryz.func258, Tryz.ntmps258
  go_wp2_with fail
  go_at_call 29; refine (valid_v b _ H.out _).mono ?_; rintro e w' ⟨rfl, x, rfl⟩
  go_wp2_with fail
  go_at_call 29; refine (valid_v (grownX b n) _ HR.out _).mono ?_; rintro e w' ⟨rfl, x, rfl⟩
  go_wp2
  refine bodyPost_ret (v := .tuple #[(.agg #[.int .i64 (grownX b n).lx, .int .i64 (grownX b n).ly, .int .i64 (grownX b n).lz, .int .i64 (grownX b n).hx, .int .i64 (grownX b n).hy, .int .i64 (grownX b n).hz]), .int .i64 0]) (by simp [results, Tryz.results258, go_sem, grownX]) rfl ?_
  exact Ret.of gro

theorem Grown_c (b : Bx) (n : Int) (w : World) :
  Calls Tryz.prog 258 #[(.agg #[.int .i64 b.lx, .int .i64 b.ly, .int .i64 b.lz, .int .i64 b.hx, .int .i64 b.hy, .int .i64 b.hz]), .int .i64 n] w (Ret w (.tuple #[(.agg #[.int .i64 (grownR b n).1.lx, .int .i64 (grownR b n).1.ly, .int .i64 (grownR b n).1.lz, .int .i64 (grownR b n).1.hx, .int .i64 (grownR b n).1.hy, .int .i64 (grownR b n).1.hz]), .int .i64 (grownR b n).2])) := by
 unfold grownR
 cases h : validB b
 ·simpa [zeroX] using Grown_arg b n h w
 ·by_cases hn : n < 0 ∨ 1048576 < n
  ·simpa [zeroX, hn] using Grown_range b n h hn w
  ·have := Grown_in b n (validB (grownX b n)) h (by omega) rfl w
   cases hr : validB (grownX b n) <;> simpa [zeroX, hn, hr] using this

set_option maxHeartbeats 400000
set_option maxRecDepth 100000

def BoxAt (w : World) (b off : Nat) (x : Bx) : Prop :=
 w.cell? ⟨b, off, none⟩ = some (.int .i64 x.lx) ∧ w.cell? ⟨b, off + 1, none⟩ = some (.int .i64 x.ly) ∧ w.cell? ⟨b, off + 2, none⟩ = some (.int .i64 x.lz) ∧
 w.cell? ⟨b, off + 3, none⟩ = some (.int .i64 x.hx) ∧ w.cell? ⟨b, off + 4, none⟩ = some (.int .i64 x.hy) ∧ w.cell? ⟨b, off + 5, none⟩ = some (.int .i64 x.hz)

def Boxes (w : World) (v : Value) (l : List Bx) : Prop :=
 ∃ a cap, v = .slice a l.length cap ∧ l.length ≤ cap ∧ cap ≤ 9223372036854775807 ∧ ∀ i (h : i < l.length), ∃ b off, a = some ⟨b, off, none⟩ ∧ BoxAt w b (off + i * 6) l[i]

theorem cell_ext_some {w : World} {a : Addr} {v : Value} (h : w.cell? a = some v) (x : World) : (ext w x).cell? a = some v := by
 rw [cell_ext, h, Option.some_or]
theorem BoxAt.ext {w : World} {b off : Nat} {x : Bx} (h : BoxAt w b off x) (y : World) : BoxAt (ext w y) b off x :=
 ⟨cell_ext_some h.1 y, cell_ext_some h.2.1 y, cell_ext_some h.2.2.1 y, cell_ext_some h.2.2.2.1 y, cell_ext_some h.2.2.2.2.1 y, cell_ext_some h.2.2.2.2.2 y⟩
theorem Boxes.ext {w : World} {v : Value} {l : List Bx} (h : Boxes w v l) (y : World) : Boxes (ext w y) v l := by
 obtain ⟨a, cap, h1, h2, h3, h4⟩ := h
 exact ⟨a, cap, h1, h2, h3, fun i hi => let ⟨b, off, e, hb⟩ := h4 i hi; ⟨b, off, e, hb.ext y⟩⟩

def Enters (F : Nat) : Prop := ∀ (a : Array Value) (w : World), (callFunc F a).run Tryz.prog w = .ok (.enter F a) w
theorem enters_of {F : Nat} {fn : Func} (hf : Tryz.prog.funcs[F]? = some fn) (hn : ¬ fn.name = "runtime.NumGoroutine") (hb : ¬ fn.body = none) : Enters F := by
 intro a w
 unfold callFunc
 simp [go_sem, hf, hn, hb]

theorem indexFunc_c (F : Nat) (hE : Enters F) (caps : Array Value) (p : Bx → Bool) (l : List Bx) (v : Value) (w : World) (hl : Boxes w v l)
  (hf : ∀ b x, b ∈ l → Calls Tryz.prog F (#[(.agg #[.int .i64 b.lx, .int .i64 b.ly, .int .i64 b.lz, .int .i64 b.hx, .int .i64 b.hy, .int .i64 b.hz])] ++ caps) (ext w x) (Ret (ext w x) (.bool (p b)))) :
  Calls Tryz.prog 68 #[v, .func (.func F) #[] caps] w (Ret w (.int .i64 (((l.findIdx? p).map (fun i : Nat => (i : Int))).getD (-1)))) := by
 obtain ⟨a, cap, rfl, h2, h3, h4⟩ := hl
 by_cases hnil : l = []
 ·subst hnil
  clear hf hE h4
  go_enter Tryz.func68, Tryz.ntmps68
  go_wp2
  refine wp_loop_rounds 1 ?_
  rw [rounds_succ]
  go_wp2
  go_ret
  exact Ret.of gro
 ·have HF := hd0 hf
  clear hf
  clear hnil
  have hn : l.length ≤ 9223372036854775807 := by omega
  go_enter Tryz.func68, Tryz.ntmps68
  go_wp2
  go_loopw [8, 5] (fun i j wr => ∃ k : Nat, k ≤ l.length ∧ i = .int .i64 k ∧ (∃ x, wr = ext w x) ∧ ∀ j (h : j < k) (h' : j < l.length), p l[j] = false) (fun i j _ => l.length - (intOf i).toNat)
  case atStart => exact ⟨0, by omega, rfl, ext_of (Below.refl _ _), fun j h => by omega⟩
  case round =>
   obtain ⟨k, hk, rfl, ⟨x, rfl⟩, hno⟩ := hrel
   have HNO := hd0 hno
   clear hno
   by_cases hlt : k < l.length
   ·have hbox := h4 k hlt
    have hcall := HF.out l[k] x (List.getElem_mem hlt)
    obtain ⟨b, off, rfl, c0, c1, c2, c3, c4, c5⟩ := hbox
    have H4 := hd0 h4
    have HC := hd0 hcall
    clear h4 hcall
    go_wp2_with fail
    rw [show ∀ (a : Array Value) (w : World), (callFunc F a).run Tryz.prog w = .ok (.enter F a) w from hE, Oper.upon_enter]
    refine HC.out.mono ?_
    rintro e w' ⟨rfl, y, rfl⟩
    cases hp : p l[k]
    ·have HP := hd0 hp
     clear hp
     go_wp2
     go_roundw
     case rel => exact ⟨k + 1, by omega, by go_num, ⟨_, ext_ext _ _ _⟩, fun j h1 h2 => by
      rcases Nat.lt_or_ge j k with h | h
      ·exact HNO.out j h h2
      ·obtain rfl : j = k := by omega
       exact HP.out⟩
     case measure => simp [intOf]; omega
    ·have he : l.findIdx? p = some k := by
      rw [List.findIdx?_eq_some_iff_getElem]
      exact ⟨hlt, hp, fun j hj => by simp [HNO.out j hj (by omega)]⟩
     have HE := hd0 he
     clear he hp
     go_wp2
     go_ret
     rw [HE.out]
     exact Ret.of gro
   ·have he : l.findIdx? p = none := by
     rw [List.findIdx?_eq_none_iff]
     intro z hz
     obtain ⟨j, hj, rfl⟩ := List.getElem_of_mem hz
     exact HNO.out j (by omega) hj
    have HE := hd0 he
    clear he
    have H4 := hd0 h4
    clear h4
    go_wp2
    go_ret
    rw [HE.out]
    exact Ret.of gro

theorem find_any {p : Bx → Bool} {l : List Bx} : (decide (0 ≤ (((l.findIdx? p).map (fun i : Nat => (i : Int))).getD (-1)))) = l.any p := by
 cases h : l.findIdx? p with
 | none =>
   have := List.findIdx?_eq_none_iff.1 h
   simp only [Option.map_none, Option.getD_none]
   rw [show (decide ((0 : Int) ≤ -1)) = false from rfl]
   symm; rw [List.any_eq_false]; intro x hx; simp [this x hx]
 | some k =>
   rw [List.findIdx?_eq_some_iff_getElem] at h
   obtain ⟨hk, hp, _⟩ := h
   simp only [Option.map_some, Option.getD_some]
   rw [show decide ((0 : Int) ≤ (k : Int)) = true from by simp]
   symm; rw [List.any_eq_true]; exact ⟨_, List.getElem_mem hk, hp⟩

theorem containsFunc_c (F : Nat) (hE : Enters F) (caps : Array Value) (p : Bx → Bool) (l : List Bx) (v : Value) (w : World) (hl : Boxes w v l)
  (hf : ∀ b x, b ∈ l → Calls Tryz.prog F (#[(.agg #[.int .i64 b.lx, .int .i64 b.ly, .int .i64 b.lz, .int .i64 b.hx, .int .i64 b.hy, .int .i64 b.hz])] ++ caps) (ext w x) (Ret (ext w x) (.bool (p b)))) :
  Calls Tryz.prog 219 #[v, .func (.func F) #[] caps] w (Ret w (.bool (l.any p))) := by
 have hfa := hd0 (@find_any p l)
 have hi := hd0 (indexFunc_c F hE caps p l v w hl hf)
 clear hf hl
 go_enter Tryz.func219, Tryz.ntmps219
 go_wp2_with fail
 refine hi.out.mono ?_; rintro e w' ⟨rfl, x, rfl⟩
 generalize (((l.findIdx? p).map (fun i : Nat => (i : Int))).getD (-1)) = r at hfa ⊢
 go_wp2
 go_ret
 rw [← hfa.out]
 exact Ret.of gro

theorem all1_c (b : Bx) (w : World) : Calls Tryz.prog 232 #[(.agg #[.int .i64 b.lx, .int .i64 b.ly, .int .i64 b.lz, .int .i64 b.hx, .int .i64 b.hy, .int .i64 b.hz])] w (Ret w (.bool (!validB b))) := by
 go_enter Tryz.func232, Tryz.ntmps232
 go_wp2_with fail
 go_at_call 29; refine (valid_c b _).mono ?_; rintro e w' ⟨rfl, x, rfl⟩
 go_wp2
 go_ret
 exact Ret.of gro

theorem enters_all1 : Enters 232 := enters_of Tryz.func232 (by decide) (by simp [Tryz.f232])

theorem any_not (l : List Bx) : (!(l.any fun b => !validB b)) = l.all validB := by
 induction l with
 | nil => rfl
 | cons a l ih => simp only [List.any_cons, List.all_cons, Bool.not_or, ih, Bool.not_not]

theorem all_c (l : List Bx) (v : Value) (w : World) (hl : Boxes w v l) :
  Calls Tryz.prog 186 #[v] w (Ret w (.bool (l.all validB))) := by
 have hi := hd0 (containsFunc_c 232 enters_all1 #[] (fun b => !validB b) l v w hl (fun b x _ => all1_c b _))
 have ha := hd0 (any_not l)
 clear hl
 go_enter Tryz.func186, Tryz.ntmps186
 go_wp2_with fail
 refine hi.out.mono ?_; rintro e w' ⟨rfl, x, rfl⟩
 generalize (l.any fun b => !validB b) = r at ha ⊢
 go_wp2
 go_ret
 rw [← ha.out]
 exact Ret.of gro

end Go.Proofs.YtkjljneehgmmaaaGreat


/- Contracts of package box, fourth part: Grown, Meet, Square. -/
import Derived.Test.YtdldbdffaffjoaaBoxC
namespace Go.Proofs.Ytdldbdffaffjoaa
open Go.RowKit

def zeroX : Bx := ⟨0, 0, 0, 0, 0, 0⟩
def grownX (b : Bx) (n : Int) : Bx := ⟨b.lx - n, b.ly - n, b.lz - n, b.hx + n, b.hy + n, b.hz + n⟩
def grownR (b : Bx) (n : Int) : Bx × Int :=
  if validB b = false then (zeroX, 1) else if n < 0 ∨ 1048576 < n then (zeroX, 2) else if validB (grownX b n) = false then (zeroX, 2) else (grownX b n, 0)

set_option maxHeartbeats 400000 in
theorem Grown_arg (b : Bx) (n : Int) (h : validB b = false) (w : World) :
    Calls Try.prog 27 #[(.agg #[.int .i64 b.lx, .int .i64 b.ly, .int .i64 b.lz, .int .i64 b.hx, .int .i64 b.hy, .int .i64 b.hz]), .int .i64 n] w (Ret w (.tuple #[(.agg #[.int .i64 0, .int .i64 0, .int .i64 0, .int .i64 0, .int .i64 0, .int .i64 0]), .int .i64 1])) := by
  go_enter Try.func27, Try.ntmps27
  go_wp2_with fail
  go_at_call 31; refine (valid_v b _ h _).mono ?_; rintro e w' ⟨rfl, x, rfl⟩
  go_wp2
  refine bodyPost_ret (v := .tuple #[(.agg #[.int .i64 0, .int .i64 0, .int .i64 0, .int .i64 0, .int .i64 0, .int .i64 0]), .int .i64 1]) (by simp [results, Try.results27, go_sem]) rfl ?_
  exact Ret.of (by (repeat (first | exact grow_refl _ | refine grow_ext _ ?_ | refine grow_alloc _ ?_ | refine grow_drew ?_)))

set_option maxHeartbeats 400000 in
theorem Grown_range (b : Bx) (n : Int) (h : validB b = true) (hn : n < 0 ∨ 1048576 < n) (w : World) :
    Calls Try.prog 27 #[(.agg #[.int .i64 b.lx, .int .i64 b.ly, .int .i64 b.lz, .int .i64 b.hx, .int .i64 b.hy, .int .i64 b.hz]), .int .i64 n] w (Ret w (.tuple #[(.agg #[.int .i64 0, .int .i64 0, .int .i64 0, .int .i64 0, .int .i64 0, .int .i64 0]), .int .i64 2])) := by
  rcases hn with hn | hn
  all_goals
    go_enter Try.func27, Try.ntmps27
    go_wp2_with fail
    go_at_call 31; refine (valid_v b _ h _).mono ?_; rintro e w' ⟨rfl, x, rfl⟩
    go_wp2
    refine bodyPost_ret (v := .tuple #[(.agg #[.int .i64 0, .int .i64 0, .int .i64 0, .int .i64 0, .int .i64 0, .int .i64 0]), .int .i64 2]) (by simp [results, Try.results27, go_sem]) rfl ?_
    exact Ret.of (by (repeat (first | exact grow_refl _ | refine grow_ext _ ?_ | refine grow_alloc _ ?_ | refine grow_drew ?_)))

set_option maxHeartbeats 400000 in
theorem Grown_in (b : Bx) (n : Int) (r : Bool) (h : validB b = true) (hn : 0 ≤ n ∧ n ≤ 1048576) (hr : validB (grownX b n) = r) (w : World) :
    Calls Try.prog 27 #[(.agg #[.int .i64 b.lx, .int .i64 b.ly, .int .i64 b.lz, .int .i64 b.hx, .int .i64 b.hy, .int .i64 b.hz]), .int .i64 n] w (Ret w (.tuple (if r = true then #[(.agg #[.int .i64 (grownX b n).lx, .int .i64 (grownX b n).ly, .int .i64 (grownX b n).lz, .int .i64 (grownX b n).hx, .int .i64 (grownX b n).hy, .int .i64 (grownX b n).hz]), .int .i64 0] else #[(.agg #[.int .i64 0, .int .i64 0, .int .i64 0, .int .i64 0, .int .i64 0, .int .i64 0]), .int .i64 2]))) := by
  have hv := valid_iff.1 h
  have H := Lib.hid h
  have HR := Lib.hid hr
  clear h hr
  cases r
  · go_enter Try.func27, Try.ntmps27
    go_wp2_with fail
    go_at_call 31; refine (valid_v b _ H.out _).mono ?_; rintro e w' ⟨rfl, x, rfl⟩
    go_wp2_with fail
    go_at_call 31; refine (valid_v (grownX b n) _ HR.out _).mono ?_; rintro e w' ⟨rfl, x, rfl⟩
    go_wp2
    refine bodyPost_ret (v := .tuple #[(.agg #[.int .i64 0, .int .i64 0, .int .i64 0, .int .i64 0, .int .i64 0, .int .i64 0]), .int .i64 2]) (by simp [results, Try.results27, go_sem]) rfl ?_
    exact Ret.of (by (repeat (first | exact grow_refl _ | refine grow_ext _ ?_ | refine grow_alloc _ ?_ | refine grow_drew ?_)))
  · go_enter Try.func27, Try.ntmps27
    go_wp2_with fail
    go_at_call 31; refine (valid_v b _ H.out _).mono ?_; rintro e w' ⟨rfl, x, rfl⟩
    go_wp2_with fail
    go_at_call 31; refine (valid_v (grownX b n) _ HR.out _).mono ?_; rintro e w' ⟨rfl, x, rfl⟩
    go_wp2
    refine bodyPost_ret (v := .tuple #[(.agg #[.int .i64 (grownX b n).lx, .int .i64 (grownX b n).ly, .int .i64 (grownX b n).lz, .int .i64 (grownX b n).hx, .int .i64 (grownX b n).hy, .int .i64 (grownX b n).hz]), .int .i64 0]) (by simp [results, Try.results27, go_sem, grownX]) rfl ?_
    exact Ret.of (by (repeat (first | exact grow_refl _ | refine grow_ext _ ?_ | refine grow_alloc _ ?_ | refine grow_drew ?_)))

theorem Grown_c (b : Bx) (n : Int) (w : World) :
    Calls Try.prog 27 #[(.agg #[.int .i64 b.lx, .int .i64 b.ly, .int .i64 b.lz, .int .i64 b.hx, .int .i64 b.hy, .int .i64 b.hz]), .int .i64 n] w (Ret w (.tuple #[(.agg #[.int .i64 (grownR b n).1.lx, .int .i64 (grownR b n).1.ly, .int .i64 (grownR b n).1.lz, .int .i64 (grownR b n).1.hx, .int .i64 (grownR b n).1.hy, .int .i64 (grownR b n).1.hz]), .int .i64 (grownR b n).2])) := by
  unfold grownR
  cases h : validB b
  · simpa [zeroX] using Grown_arg b n h w
  · by_cases hn : n < 0 ∨ 1048576 < n
    · simpa [zeroX, hn] using Grown_range b n h hn w
    · have := Grown_in b n (validB (grownX b n)) h (by omega) rfl w
      cases hr : validB (grownX b n) <;> simpa [zeroX, hn, hr] using this

def meetX (a b : Bx) : Bx := ⟨max a.lx b.lx, max a.ly b.ly, max a.lz b.lz, min a.hx b.hx, min a.hy b.hy, min a.hz b.hz⟩

def meetR (a b : Bx) : Bx × Int :=
  if validB a = true ∧ validB b = true then (if validB (meetX a b) = true then (meetX a b, 0) else (zeroX, 12)) else (zeroX, 1)
end Go.Proofs.Ytdldbdffaffjoaa

/- The parts of a solid, one by one: solid.each. -/
import Derived.Test.YtafkibnkpcmmgaaSolD
import Derived.Test.YtafkibnkpcmmgaaYield
import Derived.BigRegion
import Derived.RegionTactic
import Derived.Deep.DeepCutAuto
import Derived.Deep.CutBlock
namespace Go.Proofs.Ytafkibnkpcmmgaa
open Go.RowKit

set_option maxHeartbeats 1000000 in
theorem each5_c (h b : Bx) (g : Nat) (w : World) (hb : BoxAt w g 0 b) : Calls Try.prog 83 #[(.agg #[.int .i64 h.lx, .int .i64 h.ly, .int .i64 h.lz, .int .i64 h.hx, .int .i64 h.hy, .int .i64 h.hz]), .pointer (some ⟨g, 0, none⟩)] w (Ret w (.bool (opensB h b))) := by
  obtain ⟨c0, c1, c2, c3, c4, c5⟩ := hb
  simp only [Nat.zero_add] at c1 c2 c3 c4 c5
  go_enter Try.func83, Try.ntmps83
  go_wp2_with fail
  go_at_call 47; refine (opens_c h b _).mono ?_; rintro e w' ⟨rfl, x1, rfl⟩
  go_wp2
  go_ret
  exact Ret.of (by (repeat (first | exact grow_refl _ | refine grow_ext _ ?_ | refine grow_alloc _ ?_ | refine grow_drew ?_)))
theorem enters_each5 : Enters 83 := enters_of Try.func83 (by decide) (by simp [Try.f83])

set_option maxHeartbeats 1000000 in
theorem each4_c (a b : Bx) (g : Nat) (ha : validB a = true) (hv : validB b = true) (w : World) (hb : BoxAt w g 0 b) : Calls Try.prog 82 #[(.agg #[.int .i64 a.lx, .int .i64 a.ly, .int .i64 a.lz, .int .i64 a.hx, .int .i64 a.hy, .int .i64 a.hz]), .pointer (some ⟨g, 0, none⟩)] w (Ret w (.bool (containsB a b))) := by
  obtain ⟨c0, c1, c2, c3, c4, c5⟩ := hb
  simp only [Nat.zero_add] at c1 c2 c3 c4 c5
  go_enter Try.func82, Try.ntmps82
  go_wp2_with fail
  go_at_call 42; refine (Contains_ok a b ha hv _).mono ?_; rintro e w' ⟨rfl, x1, rfl⟩
  go_wp2
  go_ret
  exact Ret.of (by (repeat (first | exact grow_refl _ | refine grow_ext _ ?_ | refine grow_alloc _ ?_ | refine grow_drew ?_)))
theorem enters_each4 : Enters 82 := enters_of Try.func82 (by decide) (by simp [Try.f82])

theorem own_below2 {w w' : World} {base : Nat} {e : TypeId} {s : Nat} {v : Value} {n : Nat} {xs : List Value} (h : w.ownsRow base e s v n xs) (hb : Below w.heap.size w w') : w'.ownsRow base e s v n xs := by
  obtain ⟨y, rfl⟩ := ext_of hb; exact own_ext h y

/-- What the walk of each keeps at hand. -/
structure EachAt (W : World) (B g n₀ M : Nat) (u t vx vy vz : Value) (l m : List Bx) (X Y Z : List Int) : Prop where
  b0 : n₀ ≤ W.heap.size
  mb : B < M
  mx : ∀ b, vx.ownBlock = some b → b < M
  my : ∀ b, vy.ownBlock = some b → b < M
  mz : ∀ b, vz.ownBlock = some b → b < M
  boxes : Boxes W u l
  holes : Boxes W t m
  su : W.cell? ⟨B, 0, none⟩ = some u
  st : W.cell? ⟨B, 1, none⟩ = some t
  ox : W.ownsRow B 3 1 vx X.length (X.map (Value.int .i64))
  oy : W.ownsRow B 3 1 vy Y.length (Y.map (Value.int .i64))
  oz : W.ownsRow B 3 1 vz Z.length (Z.map (Value.int .i64))
theorem EachAt.grown {W W' : World} {B g n₀ M : Nat} {u t vx vy vz : Value} {l m : List Bx} {X Y Z : List Int} (h : EachAt W B g n₀ M u t vx vy vz l m X Y Z) (hb : Below W.heap.size W W') : EachAt W' B g n₀ M u t vx vy vz l m X Y Z := by
  obtain ⟨y, rfl⟩ := ext_of hb
  exact ⟨Nat.le_trans h.b0 hb.size, h.mb, h.mx, h.my, h.mz, h.boxes.below hb, h.holes.below hb, cell_ext_some h.su y, cell_ext_some h.st y, own_ext h.ox y, own_ext h.oy y, own_ext h.oz y⟩
theorem EachAt.kept {W W' : World} {B g n₀ M : Nat} {u t vx vy vz : Value} {l m : List Bx} {X Y Z : List Int} (hg : g < B) (hl : Boxes W' u l) (hm : Boxes W' t m) (h : EachAt W B g n₀ M u t vx vy vz l m X Y Z) (hk : Keeps n₀ g M W W') : EachAt W' B g n₀ M u t vx vy vz l m X Y Z :=
  ⟨Nat.le_trans h.b0 hk.size, h.mb, h.mx, h.my, h.mz, hl, hm, hk.cell h.su h.mb (by simp; omega), hk.cell h.st h.mb (by simp; omega), hk.own h.ox h.mx (fun e => by have := (h.ox.lt _ e).1; omega), hk.own h.oy h.my (fun e => by have := (h.oy.lt _ e).1; omega), hk.own h.oz h.mz (fun e => by have := (h.oz.lt _ e).1; omega)⟩

end Go.Proofs.Ytafkibnkpcmmgaa

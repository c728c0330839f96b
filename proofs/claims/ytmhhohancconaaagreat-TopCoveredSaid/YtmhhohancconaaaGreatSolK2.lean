/- SolD, SolE in one text. -/
import Derived.Test.YtmhhohancconaaaGreatSolK
import Derived.Test.YtmhhohancconaaaGreatExtK
import Derived.Test.YtmhhohancconaaaGreatYield
import Derived.BigRegion
import Derived.RegionTactic
import Derived.Deep.DeepCutAuto
import Derived.Deep.CutBlock
namespace Go.Proofs.YtmhhohancconaaaGreat
open Go.RowKit
set_option maxRecDepth 20000

def within2To (lo hi : Int) (k : Int) (x : Bx) (q : Nat) : List Int := if q = 0 then [] else if q = 1 then (if lo ≤ x.lo k ∧ x.lo k ≤ hi then [x.lo k] else []) else within2 lo hi k x
theorem within2To_length (lo hi : Int) (k : Int) (x : Bx) (q : Nat) : (within2To lo hi k x q).length ≤ 2 := by
  unfold within2To
  split
  · simp
  · split
    · split <;> simp
    · exact within2_length lo hi k x

end Go.Proofs.YtmhhohancconaaaGreat

namespace Go.Proofs.YtmhhohancconaaaGreat
open Go.RowKit
set_option maxRecDepth 20000

theorem own_below2 {w w' : World} {base : Nat} {e : TypeId} {s : Nat} {v : Value} {n : Nat} {xs : List Value} (h : w.ownsRow base e s v n xs) (hb : Below w.heap.size w w') : w'.ownsRow base e s v n xs := by
  obtain ⟨y, rfl⟩ := ext_of hb; exact own_ext h y

/-- What the walk of each keeps at hand. -/
structure EachAt (W : World) (B g n₀ M : Nat) (u t vx vy vz : Value) (l m : List Bx) (X Y Z : List Int) : Prop where
  b0 : n₀ ≤ W.heap.size
  mb : B < M
  mx : ∀ b, vx.ownBlock = some b → b < M
  my : ∀ b, vy.ownBlock = some b → b < M
  mz : ∀ b, vz.ownBlock = some b → b < M
  boxes : Boxes W u l
  holes : Boxes W t m
  su : W.cell? ⟨B, 0, none⟩ = some u
  st : W.cell? ⟨B, 1, none⟩ = some t
  ox : W.ownsRow B 3 1 vx X.length (X.map (Value.int .i64))
  oy : W.ownsRow B 3 1 vy Y.length (Y.map (Value.int .i64))
  oz : W.ownsRow B 3 1 vz Z.length (Z.map (Value.int .i64))
theorem EachAt.grown {W W' : World} {B g n₀ M : Nat} {u t vx vy vz : Value} {l m : List Bx} {X Y Z : List Int} (h : EachAt W B g n₀ M u t vx vy vz l m X Y Z) (hb : Below W.heap.size W W') : EachAt W' B g n₀ M u t vx vy vz l m X Y Z := by
  obtain ⟨y, rfl⟩ := ext_of hb
  exact ⟨Nat.le_trans h.b0 hb.size, h.mb, h.mx, h.my, h.mz, h.boxes.below hb, h.holes.below hb, cell_ext_some h.su y, cell_ext_some h.st y, own_ext h.ox y, own_ext h.oy y, own_ext h.oz y⟩
theorem EachAt.kept {W W' : World} {B g n₀ M : Nat} {u t vx vy vz : Value} {l m : List Bx} {X Y Z : List Int} (hg : g < B) (hl : Boxes W' u l) (hm : Boxes W' t m) (h : EachAt W B g n₀ M u t vx vy vz l m X Y Z) (hk : Keeps n₀ g M W W') : EachAt W' B g n₀ M u t vx vy vz l m X Y Z :=
  ⟨Nat.le_trans h.b0 hk.size, h.mb, h.mx, h.my, h.mz, hl, hm, hk.cell h.su h.mb (by simp; omega), hk.cell h.st h.mb (by simp; omega), hk.own h.ox h.mx (fun e => by have := (h.ox.lt _ e).1; omega), hk.own h.oy h.my (fun e => by have := (h.oy.lt _ e).1; omega), hk.own h.oz h.mz (fun e => by have := (h.oz.lt _ e).1; omega)⟩

end Go.Proofs.YtmhhohancconaaaGreat


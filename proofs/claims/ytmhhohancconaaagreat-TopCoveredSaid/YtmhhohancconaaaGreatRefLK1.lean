/- RefL1, RefL2, RefL3, RefL4 in one text. -/
import Derived.Test.YtmhhohancconaaaGreatLaidK3
import Derived.Test.YtmhhohancconaaaGreatCovK0
import Derived.Test.YtmhhohancconaaaGreatNameK
import Derived.Test.YtmhhohancconaaaGreatExtK
import Derived.Test.YtmhhohancconaaaGreatLaidK4
namespace Go.Proofs.YtmhhohancconaaaGreat
open Go.RowKit
set_option maxRecDepth 20000

def dims12 (c : Int) : Int := if c = 0 then 1 else if c = 11 then 2 else if c = 21 ∨ c = 26 ∨ c = 31 ∨ c = 51 ∨ c = 98 then 3 else if c = 41 then 5 else 0
theorem dims12_eq (c : Int) : (dimsR c).1 = dims12 c ∧ ((dimsR c).2 = 0 ↔ dims12 c ≠ 0) ∧ 0 ≤ dims12 c ∧ dims12 c ≤ 5 := by
  rcases legs_cases c with rfl | rfl | rfl | rfl | rfl | rfl | rfl | rfl | ⟨⟨d0, d11, d21, d26, d31, d41, d51, d98⟩, he⟩
  all_goals first
    | exact ⟨by decide, by decide, by decide, by decide⟩
    | (have hz : dims12 c = 0 := by
         unfold dims12
         simp only [beq_eq_false_iff_ne] at d0 d11 d21 d26 d31 d41 d51 d98
         simp [d0, d11, d21, d26, d31, d41, d51, d98]
       rw [hz]
       unfold dimsR
       rw [he]
       exact ⟨by decide, by decide, by decide, by decide⟩)

def sumD : List Int → Int
  | [] => 0
  | n :: l => n + sumD l
theorem sumD_append (a b : List Int) : sumD (a ++ b) = sumD a + sumD b := by
  induction a with
  | nil => simp [sumD]
  | cons x a ih => simp only [List.cons_append, sumD, ih]; omega
theorem restB_iff {r : Int} {l : List Int} (hr : 0 ≤ r ∧ r ≤ 1048576) : restB r l = true ↔ (∀ n ∈ l, 1 ≤ n ∧ n ≤ 1048576) ∧ sumD l ≤ r := by
  induction l generalizing r with
  | nil => simp [restB, sumD]; omega
  | cons n l ih =>
    rw [restB_cons]
    constructor
    · rintro ⟨h1, h2, h3⟩
      obtain ⟨h4, h5⟩ := (ih (by omega)).1 h3
      refine ⟨fun x hx => ?_, by simp only [sumD]; omega⟩
      rcases List.mem_cons.1 hx with rfl | hx
      · omega
      · exact h4 x hx
    · rintro ⟨h1, h2⟩
      have h3 := h1 n List.mem_cons_self
      have h5 : 0 ≤ sumD l := by
        have : ∀ (l : List Int), (∀ n ∈ l, 1 ≤ n ∧ n ≤ 1048576) → 0 ≤ sumD l := by
          intro l
          induction l with
          | nil => intro _; exact Int.le_refl _
          | cons a l ih => intro h; have := h a List.mem_cons_self; have := ih fun x hx => h x (List.mem_cons_of_mem _ hx); simp only [sumD]; omega
        exact this l fun x hx => h1 x (List.mem_cons_of_mem _ hx)
      simp only [sumD] at h2
      exact ⟨h3.1, by omega, (ih (by omega)).2 ⟨fun x hx => h1 x (List.mem_cons_of_mem _ hx), by omega⟩⟩
theorem restB_bad {l : List Int} {n : Int} (h : n ∈ l) (hn : ¬ (1 ≤ n ∧ n ≤ 1048576)) : restB 262144 l = false := by
  rw [Bool.eq_false_iff]; intro e; exact hn (((restB_iff (by omega)).1 e).1 n h)

end Go.Proofs.YtmhhohancconaaaGreat

namespace Go.Proofs.YtmhhohancconaaaGreat
open Go.RowKit
set_option maxRecDepth 20000

set_option maxHeartbeats 1000000 in
theorem refFind_c (l : List Br) (v : Value) (m : ByteArray) (w : World) (hl : Bars w v l) : Calls Tryz.prog 32 #[v, .string m] w (Ret w (.int .i64 (findI l m))) := by
  obtain ⟨a, cap, rfl, h2, h3, h4⟩ := hl.shape
  have H4 := Lib.hid h4
  clear hl h4
  go_enter Tryz.func32, Tryz.ntmps32
  go_wp2_with fail
  go_loopw [5] (fun i wr => ∃ k : Nat, k ≤ l.length ∧ i = .int .i64 k ∧ (∃ x, wr = ext w x) ∧ ∀ j (h : j < k) (h' : j < l.length), (l[j].mark.toList == m.toList) = false) (fun i _ => l.length - (intOf i).toNat)
  case atStart => exact ⟨0, by omega, rfl, ext_of (Below.refl _ _), fun j h => by omega⟩
  case round =>
    obtain ⟨k, hk, rfl, ⟨x, rfl⟩, hno⟩ := hrel
    have HNO := Lib.hid hno
    clear hno
    by_cases hlt : k < l.length
    · obtain ⟨_, b0, off, rfl, hbr⟩ := H4.out k hlt
      have q1 : (0 : Int) ≤ (k : Int) := by omega
      have q2 : (k : Int) < (l.length : Int) := by omega
      obtain ⟨b, hb⟩ : ∃ b, b = l[k] := ⟨_, rfl⟩
      rw [← hb] at hbr
      obtain ⟨c0, c1, c2, c3, c4⟩ := hbr.ext x
      have HB := Lib.hid hb
      clear hb hbr
      cases hp : (b.mark.toList == m.toList)
      · have HP := Lib.hid (show (l[k].mark.toList == m.toList) = false by rw [← HB.out]; exact hp)
        go_wp2
        go_roundw
        case rel => exact ⟨k + 1, by omega, by go_num, ext_of (by (repeat (first | exact grow_refl _ | refine grow_ext _ ?_ | refine grow_alloc _ ?_ | refine grow_drew ?_))), fun j h1 h2 => by
          rcases Nat.lt_or_ge j k with h | h
          · exact HNO.out j h h2
          · obtain rfl : j = k := by omega
            exact HP.out⟩
        case measure => simp [intOf]; omega
      · have HE := Lib.hid (show findI l m = k from findI_some hlt (by rw [← HB.out]; exact hp) (fun j hj => HNO.out j hj (by omega)))
        go_wp2
        go_ret
        rw [HE.out]
        exact Ret.of (by (repeat (first | exact grow_refl _ | refine grow_ext _ ?_ | refine grow_alloc _ ?_ | refine grow_drew ?_)))
    · have HE := Lib.hid (show findI l m = -1 from findI_none fun j hj => HNO.out j (by omega) hj)
      go_wp2
      go_ret
      rw [HE.out]
      exact Ret.of (by (repeat (first | exact grow_refl _ | refine grow_ext _ ?_ | refine grow_alloc _ ?_ | refine grow_drew ?_)))

end Go.Proofs.YtmhhohancconaaaGreat

namespace Go.Proofs.YtmhhohancconaaaGreat
open Go.RowKit
set_option maxRecDepth 20000

theorem lenD1 {l : List Int} (h : (l.length : Int) = 1) : ∃ a, l = [a] := by match l, h with | [a], _ => exact ⟨a, rfl⟩
theorem lenD2 {l : List Int} (h : (l.length : Int) = 2) : ∃ a b, l = [a, b] := by match l, h with | [a, b], _ => exact ⟨a, b, rfl⟩
theorem lenD3 {l : List Int} (h : (l.length : Int) = 3) : ∃ a b c, l = [a, b, c] := by match l, h with | [a, b, c], _ => exact ⟨a, b, c, rfl⟩
theorem lenD5 {l : List Int} (h : (l.length : Int) = 5) : ∃ a b c d e, l = [a, b, c, d, e] := by match l, h with | [a, b, c, d, e], _ => exact ⟨a, b, c, d, e, rfl⟩
def movesL (b : Br) : List Pt := (legsC b.code).map (addP b.dims ⟨0, 0, 0⟩)
theorem pts_new {w : World} {g : Nat} (hg : g = w.heap.size) (l : List Pt) (cs : Array Value) (hc : cs.toList = ptCells l) (hl : l.length ≤ 1000) : Pts (w.alloc (.cells cs 54)) (.slice (some ⟨g, 0, none⟩) l.length l.length) l := by
  refine ⟨_, _, rfl, Nat.le_refl _, by omega, fun i hi => ⟨g, 0, rfl, ?_⟩⟩
  have hb : Blk (w.alloc (.cells cs 54)) g cs 54 := Blk.new' hg _ _
  have hcs : ∀ j, cs[j]? = (ptCells l)[j]? := fun j => by rw [← hc, Array.getElem?_toList]
  obtain ⟨e0, e1, e2⟩ := ptCells_get l i hi
  rw [Nat.zero_add]
  exact ⟨by rw [hb.cell, hcs, e0], by rw [hb.cell, hcs, e1], by rw [hb.cell, hcs, e2]⟩
theorem dims_cells {w : World} {a : Option Addr} {l : List Int} (h : ∀ i (h : i < l.length), ∃ b off, a = some ⟨b, off, none⟩ ∧ w.cell? ⟨b, off + i, none⟩ = some (.int .i64 l[i])) (h0 : 0 < l.length) :
    ∃ b off, a = some ⟨b, off, none⟩ ∧ ∀ i (h : i < l.length), w.cell? ⟨b, off + i, none⟩ = some (.int .i64 l[i]) := by
  obtain ⟨b, off, rfl, _⟩ := h 0 h0
  exact ⟨b, off, rfl, fun i hi => by obtain ⟨b', off', e, hc⟩ := h i hi; cases e; exact hc⟩

end Go.Proofs.YtmhhohancconaaaGreat

namespace Go.Proofs.YtmhhohancconaaaGreat
open Go.RowKit
set_option maxRecDepth 20000

theorem addP_plus (dims : List Int) (p : Pt) (g : Nat × Int) : addP dims p g = ⟨p.x + (addP dims ⟨0, 0, 0⟩ g).x, p.y + (addP dims ⟨0, 0, 0⟩ g).y, p.z + (addP dims ⟨0, 0, 0⟩ g).z⟩ := by
  unfold addP
  split <;> (try split) <;> (try split) <;> (try split) <;> simp <;> omega
theorem moves_near {b : Br} (h : shapeB b = true) : ∀ p ∈ movesL b, NearP p 262144 := by
  intro p hp
  unfold movesL at hp
  obtain ⟨g, hg, rfl⟩ := List.mem_map.1 hp
  have hd := legs_dims h g hg
  have hr := restB_mem (shape_facts h).2.2.2.2.2 _ (List.getElem_mem hd)
  have he : b.dims.getD g.1 0 = b.dims[g.1] := by simp [List.getD, hd]
  unfold addP NearP
  rw [he]
  split <;> (try split) <;> (try split) <;> (try split) <;> simp <;> omega
structure PthJ (W0 : World) (b : Br) (k : Nat) (v : Value) (wr : World) : Prop where
  below : Below W0.heap.size W0 wr
  point : Blk wr W0.heap.size #[.int .i64 (atK b.dims (legsC b.code) k).x, .int .i64 (atK b.dims (legsC b.code) k).y, .int .i64 (atK b.dims (legsC b.code) k).z] 54
  row : wr.ownsRow (W0.heap.size + 1) 54 3 v (k + 1) (ptCells (ptsK b.dims (legsC b.code) k))
  near : NearK (atK b.dims (legsC b.code) k) k
theorem PthJ.step {W0 : World} {b : Br} {k : Nat} {v : Value} {wr : World} (h : PthJ W0 b k v wr) (P : Pt) (y : World) (o2 : Obj) (hat : atK b.dims (legsC b.code) (k + 1) = P) (hn : NearK P (k + 1)) {v' : Value} {w' : World}
    (hown : w'.ownsRow (W0.heap.size + 1) 54 3 v' (k + 1 + 1) (ptCells (ptsK b.dims (legsC b.code) k) ++ ptCells [P]))
    (hg : ((ext (((wr.setCell ⟨W0.heap.size, 0, none⟩ (.int .i64 P.x)).setCell ⟨W0.heap.size, 1, none⟩ (.int .i64 P.y)).setCell ⟨W0.heap.size, 2, none⟩ (.int .i64 P.z)) y).alloc o2).grownBy w' v.ownBlock) : PthJ W0 b (k + 1) v' w' := by
  have hrow : ∀ k, v.ownBlock = some k → W0.heap.size ≤ k := fun k e => by have := (h.row.lt k e).1; omega
  have r4 : some W0.heap.size ≠ v.ownBlock := own_base_ne h.row (Nat.lt_succ_self _)
  have h3 := below_set3 h.below rfl 0 1 2 (.int .i64 P.x) (.int .i64 P.y) (.int .i64 P.z)
  have h4 : Below W0.heap.size W0 ((ext (((wr.setCell ⟨W0.heap.size, 0, none⟩ (.int .i64 P.x)).setCell ⟨W0.heap.size, 1, none⟩ (.int .i64 P.y)).setCell ⟨W0.heap.size, 2, none⟩ (.int .i64 P.z)) y).alloc o2) := grow_alloc _ (grow_ext _ h3)
  refine ⟨h4.grown hg h4.size hrow, ?_, ?_, by rw [hat]; exact hn⟩
  · have := ((((h.point.set 0 (.int .i64 P.x)).set 1 (.int .i64 P.y)).set 2 (.int .i64 P.z)).ext y).alloc o2
    rw [hat]
    exact (this.grown hg r4)
  · rw [ptsK_succ, ptCells_append, hat]; exact hown

end Go.Proofs.YtmhhohancconaaaGreat


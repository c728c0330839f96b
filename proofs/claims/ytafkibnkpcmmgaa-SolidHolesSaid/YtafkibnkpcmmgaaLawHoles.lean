/- SolidHoles: the walk of the law. Printed by mklawsh.py. -/
import Derived.Test.YtafkibnkpcmmgaaHolD
import Derived.Test.YtafkibnkpcmmgaaExtK
import Derived.RegionTactic
import Derived.Deep.DeepCutAuto
import Derived.Deep.RegionHeld3
namespace Go.Proofs.Ytafkibnkpcmmgaa
open Go.RowKit
set_option maxRecDepth 20000

theorem rw_ok {kL kB kA kS kL' kB' kA' kS' G off G' off' n n' : Nat} {c c' : Array Value} {a a' : Value} {xs news xs' news' : List Value} (h : ([kL, kB, kA, kS, kL', kB', kA', kS'] : List Nat).Nodup) : Rw.ok ⟨kL, kB, kA, kS, G, off, c, a, n, xs, news⟩ ⟨kL', kB', kA', kS', G', off', c', a', n', xs', news'⟩ := by
  simp only [List.nodup_cons, List.mem_cons, List.not_mem_nil, or_false, not_or] at h
  obtain ⟨⟨a1, a2, a3, a4, a5, a6, a7⟩, ⟨b2, b3, b4, b5, b6, b7⟩, ⟨c3, c4, c5, c6, c7⟩, ⟨d4, d5, d6, d7⟩, -⟩ := h
  refine ⟨⟨a1, a2, a3, b2, b3, c3⟩, fun k hk => ?_⟩
  simp only [Rw.ks, List.mem_cons, List.not_mem_nil, or_false] at hk ⊢
  rcases hk with rfl | rfl | rfl | rfl <;> omega
theorem own_same {w w' : World} {base : Nat} {e : TypeId} {s : Nat} {v : Value} {n : Nat} {xs : List Value} (h : w.ownsRow base e s v n xs) (hs : ∀ b, v.ownBlock = some b → w'.heap[b]? = w.heap[b]?) : w'.ownsRow base e s v n xs := by
  refine ⟨h.1, ?_⟩
  rcases h.2 with h | ⟨g, cap, cur, rfl, h2, h3, h4⟩
  · exact .inl h
  · exact .inr ⟨g, cap, cur, rfl, h2, by rw [hs g rfl]; exact h3, h4⟩
theorem boxes_blk {W : World} {g : Nat} {b : Bx} (h : Blk W g #[.int .i64 b.lx, .int .i64 b.ly, .int .i64 b.lz, .int .i64 b.hx, .int .i64 b.hy, .int .i64 b.hz] 28) : Boxes W (.slice (some ⟨g, 0, none⟩) 1 1) [b] := by
  refine ⟨some ⟨g, 0, none⟩, 1, rfl, Nat.le_refl _, by decide, fun i hi => ?_⟩
  obtain rfl : i = 0 := by simpa using hi
  exact ⟨g, 0, rfl, h.cell 0, h.cell 1, h.cell 2, h.cell 3, h.cell 4, h.cell 5⟩
theorem boxes_nil (W : World) : Boxes W (.slice none 0 0) [] := ⟨none, 0, rfl, Nat.le_refl _, by decide, fun i hi => by simp at hi⟩
/-- What the walk knows of the blocks that it made first. -/
structure HoK (w : World) (u t : Value) (g6 gx gy gz gs g11 : Nat) (b : Bx) (dx dy dz : Int) (W : World) : Prop where
  below : Below w.heap.size w W
  b5 : Blk W w.heap.size #[u, t] 24
  b6 : Blk W g6 #[.int .i64 b.lx, .int .i64 b.ly, .int .i64 b.lz, .int .i64 b.hx, .int .i64 b.hy, .int .i64 b.hz] 28
  bx : Blk W gx #[.int .i16 dx] 50
  bY : Blk W gy #[.int .i16 dy] 50
  bz : Blk W gz #[.int .i16 dz] 50
  bs : Blk W gs #[.int .i64 b.lx, .int .i64 b.ly, .int .i64 b.lz, .int .i64 b.hx, .int .i64 b.hy, .int .i64 b.hz] 28
  b11 : Blk W g11 #[.slice (some ⟨gs, 0, none⟩) 1 1, .slice none 0 0] 24
theorem HoK.move {w : World} {u t : Value} {g6 gx gy gz gs g11 : Nat} {b : Bx} {dx dy dz : Int} {W W' : World} (h : HoK w u t g6 gx gy gz gs g11 b dx dy dz W) (hb : Below W.heap.size W W') : HoK w u t g6 gx gy gz gs g11 b dx dy dz W' :=
  ⟨h.below.trans (hb.mono h.below.size), h.b5.below hb, h.b6.below hb, h.bx.below hb, h.bY.below hb, h.bz.below hb, h.bs.below hb, h.b11.below hb⟩
/-- The two solids with one box more. -/
structure HoE (l m : List Bx) (b : Bx) (g14 g16 g17 : Nat) (u t u' t' : Value) (W : World) : Prop where
  b14 : Blk W g14 #[.int .i64 (hullX l).lx, .int .i64 (hullX l).ly, .int .i64 (hullX l).lz, .int .i64 (hullX l).hx, .int .i64 (hullX l).hy, .int .i64 (hullX l).hz] 28
  b16 : Blk W g16 #[u, t] 24
  b17 : Blk W g17 #[u', t'] 24
  u1 : Boxes W u l
  t1 : Boxes W t (m ++ [b])
  u2 : Boxes W u' (l ++ [b])
  t2 : Boxes W t' m
theorem HoE.move {l m : List Bx} {b : Bx} {g14 g16 g17 : Nat} {u t u' t' : Value} {W W' : World} (h : HoE l m b g14 g16 g17 u t u' t' W) (hb : Below W.heap.size W W') : HoE l m b g14 g16 g17 u t u' t' W' :=
  ⟨h.b14.below hb, h.b16.below hb, h.b17.below hb, h.u1.below hb, h.t1.below hb, h.u2.below hb, h.t2.below hb⟩
theorem DApp.base {T TB : TypeId} {sz base : Nat} {W1 W : World} {r r' : Rw} {L : Array Bool} {vs : List Value} (h : DApp T TB sz base W1 r r' L vs W) (hs : base ≤ W1.heap.size) (h1 : base ≤ r.G) (h2 : base ≤ r'.G) (a1 : ∀ k, r.a.ownBlock = some k → base ≤ k) (a2 : ∀ k, r'.a.ownBlock = some k → base ≤ k) : Below base W1 W :=
  ⟨h.os, h.tape, h.output, h.size, fun k hk => h.frame k (Nat.lt_of_lt_of_le hk hs) (by omega) (by omega) (fun e => by have := a1 k e; omega) (fun e => by have := a2 k e; omega)⟩

set_option maxRecDepth 100000 in
set_option maxHeartbeats 4000000 in
theorem holes_a (l m : List Bx) (u t : Value) (b : Bx) (dx dy dz : Int) (hr : rightB l m = false) (w : World) (hl : Boxes w u l) (hm : Boxes w t m) :
    Calls Try.prog 5 #[.agg #[u, t], (.agg #[.int .i64 b.lx, .int .i64 b.ly, .int .i64 b.lz, .int .i64 b.hx, .int .i64 b.hy, .int .i64 b.hz]), .int .i16 dx, .int .i16 dy, .int .i16 dz] w (Ret w (.bool true)) := by
  obtain ⟨ua, uc, rfl, -, -, u4⟩ := hl.shape
  obtain ⟨ta, tc, rfl, -, -, t4⟩ := hm.shape
  have HL := Lib.hid hl
  have HM := Lib.hid hm
  have HU4 := Lib.hid u4
  have HT4 := Lib.hid t4
  clear hl hm u4 t4
  have HR := Lib.hid hr
  clear hr
  go_enter Try.func5, Try.ntmps5
  go_wp2_with fail
  go_at_call 9; refine (awake17_c _).mono ?_; rintro e w' ⟨rfl, x0, rfl⟩
  go_upto_region 4 with fail
  refine world_mask (fun W => HoK w (.slice ua l.length uc) (.slice ta m.length tc) (w.heap.size + 1) (w.heap.size + 1 + 1) (w.heap.size + 1 + 1 + 1) (w.heap.size + 1 + 1 + 1 + 1) (w.heap.size + 1 + 1 + 1 + 1 + 1 + x0.heap.size) (w.heap.size + 1 + 1 + 1 + 1 + 1 + x0.heap.size + 1) b dx dy dz W) _ ?_ ?_
  · exact ⟨by (repeat (first | exact grow_refl _ | refine grow_ext _ ?_ | refine grow_alloc _ ?_ | refine grow_drew ?_)), ((((((Blk.new _ _ _).alloc _).alloc _).alloc _).alloc _).ext _).alloc _ |>.alloc _, ((((((Blk.new' (by simp only [World.size_alloc]) _ _).alloc _).alloc _).alloc _).ext _).alloc _).alloc _, (((((Blk.new' (by simp only [World.size_alloc]) _ _).alloc _).alloc _).ext _).alloc _).alloc _, ((((Blk.new' (by simp only [World.size_alloc]) _ _).alloc _).ext _).alloc _).alloc _, (((Blk.new' (by simp only [World.size_alloc]) _ _).ext _).alloc _).alloc _, (Blk.new' (by simp only [World.size_alloc, size_ext]) _ _).alloc _, Blk.new' (by simp only [World.size_alloc, size_ext]) _ _⟩
  intro W0 hK
  generalize w.heap.size + 1 + 1 + 1 + 1 + 1 + x0.heap.size + 1 = g11 at *
  generalize w.heap.size + 1 + 1 + 1 + 1 + 1 + x0.heap.size = gs at *
  generalize w.heap.size + 1 + 1 + 1 + 1 = gz at *
  generalize w.heap.size + 1 + 1 + 1 = gy at *
  generalize w.heap.size + 1 + 1 = gx at *
  generalize w.heap.size + 1 = g6 at *
  have HKK := Lib.hid hK
  have hb0 := hK.below
  have HB0 := Lib.hid hb0
  have c50 : W0.cell? ⟨w.heap.size, 0, none⟩ = some (.slice ua l.length uc) := hK.b5.cell 0
  have c51 : W0.cell? ⟨w.heap.size, 1, none⟩ = some (.slice ta m.length tc) := hK.b5.cell 1
  have c110 : W0.cell? ⟨g11, 0, none⟩ = some (.slice (some ⟨gs, 0, none⟩) 1 1) := hK.b11.cell 0
  have c111 : W0.cell? ⟨g11, 1, none⟩ = some (.slice none 0 0) := hK.b11.cell 1
  have HBX := Lib.hid (boxes_blk hK.bs)
  have HLB := Lib.hid (HL.out.below hb0)
  have HMB := Lib.hid (HM.out.below hb0)
  clear hK hb0
  go_wp2_with fail
  go_at_call 10; refine (right17_v l m _ _ _ HR.out _ (HLB.out.below (by (repeat (first | exact grow_refl _ | refine grow_ext _ ?_ | refine grow_alloc _ ?_ | refine grow_drew ?_)))) (HMB.out.below (by (repeat (first | exact grow_refl _ | refine grow_ext _ ?_ | refine grow_alloc _ ?_ | refine grow_drew ?_))))).mono ?_; rintro e w' ⟨rfl, y1, rfl⟩
  go_wp2
  go_ret
  exact Ret.of (HB0.out.trans (Below.mono (by (repeat (first | exact grow_refl _ | refine grow_ext _ ?_ | refine grow_alloc _ ?_ | refine grow_drew ?_))) HB0.out.size))

set_option maxRecDepth 100000 in
set_option maxHeartbeats 4000000 in
theorem holes_b (l m : List Bx) (u t : Value) (b : Bx) (dx dy dz : Int) (hr : rightB l m = true) (hv : modestS l m = false) (w : World) (hl : Boxes w u l) (hm : Boxes w t m) :
    Calls Try.prog 5 #[.agg #[u, t], (.agg #[.int .i64 b.lx, .int .i64 b.ly, .int .i64 b.lz, .int .i64 b.hx, .int .i64 b.hy, .int .i64 b.hz]), .int .i16 dx, .int .i16 dy, .int .i16 dz] w (Ret w (.bool true)) := by
  obtain ⟨ua, uc, rfl, -, -, u4⟩ := hl.shape
  obtain ⟨ta, tc, rfl, -, -, t4⟩ := hm.shape
  have HL := Lib.hid hl
  have HM := Lib.hid hm
  have HU4 := Lib.hid u4
  have HT4 := Lib.hid t4
  clear hl hm u4 t4
  have HR := Lib.hid hr
  obtain ⟨⟨n1, n2⟩, -⟩ := right_iff.1 hr
  clear hr
  have HV := Lib.hid hv
  clear hv
  go_enter Try.func5, Try.ntmps5
  go_wp2_with fail
  go_at_call 9; refine (awake17_c _).mono ?_; rintro e w' ⟨rfl, x0, rfl⟩
  go_upto_region 4 with fail
  refine world_mask (fun W => HoK w (.slice ua l.length uc) (.slice ta m.length tc) (w.heap.size + 1) (w.heap.size + 1 + 1) (w.heap.size + 1 + 1 + 1) (w.heap.size + 1 + 1 + 1 + 1) (w.heap.size + 1 + 1 + 1 + 1 + 1 + x0.heap.size) (w.heap.size + 1 + 1 + 1 + 1 + 1 + x0.heap.size + 1) b dx dy dz W) _ ?_ ?_
  · exact ⟨by (repeat (first | exact grow_refl _ | refine grow_ext _ ?_ | refine grow_alloc _ ?_ | refine grow_drew ?_)), ((((((Blk.new _ _ _).alloc _).alloc _).alloc _).alloc _).ext _).alloc _ |>.alloc _, ((((((Blk.new' (by simp only [World.size_alloc]) _ _).alloc _).alloc _).alloc _).ext _).alloc _).alloc _, (((((Blk.new' (by simp only [World.size_alloc]) _ _).alloc _).alloc _).ext _).alloc _).alloc _, ((((Blk.new' (by simp only [World.size_alloc]) _ _).alloc _).ext _).alloc _).alloc _, (((Blk.new' (by simp only [World.size_alloc]) _ _).ext _).alloc _).alloc _, (Blk.new' (by simp only [World.size_alloc, size_ext]) _ _).alloc _, Blk.new' (by simp only [World.size_alloc, size_ext]) _ _⟩
  intro W0 hK
  generalize w.heap.size + 1 + 1 + 1 + 1 + 1 + x0.heap.size + 1 = g11 at *
  generalize w.heap.size + 1 + 1 + 1 + 1 + 1 + x0.heap.size = gs at *
  generalize w.heap.size + 1 + 1 + 1 + 1 = gz at *
  generalize w.heap.size + 1 + 1 + 1 = gy at *
  generalize w.heap.size + 1 + 1 = gx at *
  generalize w.heap.size + 1 = g6 at *
  have HKK := Lib.hid hK
  have hb0 := hK.below
  have HB0 := Lib.hid hb0
  have c50 : W0.cell? ⟨w.heap.size, 0, none⟩ = some (.slice ua l.length uc) := hK.b5.cell 0
  have c51 : W0.cell? ⟨w.heap.size, 1, none⟩ = some (.slice ta m.length tc) := hK.b5.cell 1
  have c110 : W0.cell? ⟨g11, 0, none⟩ = some (.slice (some ⟨gs, 0, none⟩) 1 1) := hK.b11.cell 0
  have c111 : W0.cell? ⟨g11, 1, none⟩ = some (.slice none 0 0) := hK.b11.cell 1
  have HBX := Lib.hid (boxes_blk hK.bs)
  have HLB := Lib.hid (HL.out.below hb0)
  have HMB := Lib.hid (HM.out.below hb0)
  clear hK hb0
  go_wp2_with fail
  go_at_call 10; refine (right17_v l m _ _ _ HR.out _ (HLB.out.below (by (repeat (first | exact grow_refl _ | refine grow_ext _ ?_ | refine grow_alloc _ ?_ | refine grow_drew ?_)))) (HMB.out.below (by (repeat (first | exact grow_refl _ | refine grow_ext _ ?_ | refine grow_alloc _ ?_ | refine grow_drew ?_))))).mono ?_; rintro e w' ⟨rfl, y1, rfl⟩
  go_wp2_with fail
  go_at_call 17; refine (modest17_v l m _ _ _ HV.out (by omega) (by omega) _ (HLB.out.below (by (repeat (first | exact grow_refl _ | refine grow_ext _ ?_ | refine grow_alloc _ ?_ | refine grow_drew ?_)))) (HMB.out.below (by (repeat (first | exact grow_refl _ | refine grow_ext _ ?_ | refine grow_alloc _ ?_ | refine grow_drew ?_))))).mono ?_; rintro e w' ⟨rfl, y2, rfl⟩
  go_wp2
  go_ret
  exact Ret.of (HB0.out.trans (Below.mono (by (repeat (first | exact grow_refl _ | refine grow_ext _ ?_ | refine grow_alloc _ ?_ | refine grow_drew ?_))) HB0.out.size))

set_option maxRecDepth 100000 in
set_option maxHeartbeats 4000000 in
theorem holes_c (l m : List Bx) (u t : Value) (b : Bx) (dx dy dz : Int) (hr : rightB l m = true) (hv : modestS l m = true) (h3 : 3 < l.length) (w : World) (hl : Boxes w u l) (hm : Boxes w t m) :
    Calls Try.prog 5 #[.agg #[u, t], (.agg #[.int .i64 b.lx, .int .i64 b.ly, .int .i64 b.lz, .int .i64 b.hx, .int .i64 b.hy, .int .i64 b.hz]), .int .i16 dx, .int .i16 dy, .int .i16 dz] w (Ret w (.bool true)) := by
  obtain ⟨ua, uc, rfl, -, -, u4⟩ := hl.shape
  obtain ⟨ta, tc, rfl, -, -, t4⟩ := hm.shape
  have HL := Lib.hid hl
  have HM := Lib.hid hm
  have HU4 := Lib.hid u4
  have HT4 := Lib.hid t4
  clear hl hm u4 t4
  have HR := Lib.hid hr
  obtain ⟨⟨n1, n2⟩, -⟩ := right_iff.1 hr
  clear hr
  have HV := Lib.hid hv
  clear hv
  have d1 : decide ((3 : Int) < (l.length : Int)) = true := by simp; omega
  clear h3
  go_enter Try.func5, Try.ntmps5
  go_wp2_with fail
  go_at_call 9; refine (awake17_c _).mono ?_; rintro e w' ⟨rfl, x0, rfl⟩
  go_upto_region 4 with fail
  refine world_mask (fun W => HoK w (.slice ua l.length uc) (.slice ta m.length tc) (w.heap.size + 1) (w.heap.size + 1 + 1) (w.heap.size + 1 + 1 + 1) (w.heap.size + 1 + 1 + 1 + 1) (w.heap.size + 1 + 1 + 1 + 1 + 1 + x0.heap.size) (w.heap.size + 1 + 1 + 1 + 1 + 1 + x0.heap.size + 1) b dx dy dz W) _ ?_ ?_
  · exact ⟨by (repeat (first | exact grow_refl _ | refine grow_ext _ ?_ | refine grow_alloc _ ?_ | refine grow_drew ?_)), ((((((Blk.new _ _ _).alloc _).alloc _).alloc _).alloc _).ext _).alloc _ |>.alloc _, ((((((Blk.new' (by simp only [World.size_alloc]) _ _).alloc _).alloc _).alloc _).ext _).alloc _).alloc _, (((((Blk.new' (by simp only [World.size_alloc]) _ _).alloc _).alloc _).ext _).alloc _).alloc _, ((((Blk.new' (by simp only [World.size_alloc]) _ _).alloc _).ext _).alloc _).alloc _, (((Blk.new' (by simp only [World.size_alloc]) _ _).ext _).alloc _).alloc _, (Blk.new' (by simp only [World.size_alloc, size_ext]) _ _).alloc _, Blk.new' (by simp only [World.size_alloc, size_ext]) _ _⟩
  intro W0 hK
  generalize w.heap.size + 1 + 1 + 1 + 1 + 1 + x0.heap.size + 1 = g11 at *
  generalize w.heap.size + 1 + 1 + 1 + 1 + 1 + x0.heap.size = gs at *
  generalize w.heap.size + 1 + 1 + 1 + 1 = gz at *
  generalize w.heap.size + 1 + 1 + 1 = gy at *
  generalize w.heap.size + 1 + 1 = gx at *
  generalize w.heap.size + 1 = g6 at *
  have HKK := Lib.hid hK
  have hb0 := hK.below
  have HB0 := Lib.hid hb0
  have c50 : W0.cell? ⟨w.heap.size, 0, none⟩ = some (.slice ua l.length uc) := hK.b5.cell 0
  have c51 : W0.cell? ⟨w.heap.size, 1, none⟩ = some (.slice ta m.length tc) := hK.b5.cell 1
  have c110 : W0.cell? ⟨g11, 0, none⟩ = some (.slice (some ⟨gs, 0, none⟩) 1 1) := hK.b11.cell 0
  have c111 : W0.cell? ⟨g11, 1, none⟩ = some (.slice none 0 0) := hK.b11.cell 1
  have HBX := Lib.hid (boxes_blk hK.bs)
  have HLB := Lib.hid (HL.out.below hb0)
  have HMB := Lib.hid (HM.out.below hb0)
  clear hK hb0
  go_wp2_with fail
  go_at_call 10; refine (right17_v l m _ _ _ HR.out _ (HLB.out.below (by (repeat (first | exact grow_refl _ | refine grow_ext _ ?_ | refine grow_alloc _ ?_ | refine grow_drew ?_)))) (HMB.out.below (by (repeat (first | exact grow_refl _ | refine grow_ext _ ?_ | refine grow_alloc _ ?_ | refine grow_drew ?_))))).mono ?_; rintro e w' ⟨rfl, y1, rfl⟩
  go_wp2_with fail
  go_at_call 17; refine (modest17_v l m _ _ _ HV.out (by omega) (by omega) _ (HLB.out.below (by (repeat (first | exact grow_refl _ | refine grow_ext _ ?_ | refine grow_alloc _ ?_ | refine grow_drew ?_)))) (HMB.out.below (by (repeat (first | exact grow_refl _ | refine grow_ext _ ?_ | refine grow_alloc _ ?_ | refine grow_drew ?_))))).mono ?_; rintro e w' ⟨rfl, y2, rfl⟩
  go_wp2
  go_ret
  exact Ret.of (HB0.out.trans (Below.mono (by (repeat (first | exact grow_refl _ | refine grow_ext _ ?_ | refine grow_alloc _ ?_ | refine grow_drew ?_))) HB0.out.size))

set_option maxRecDepth 100000 in
set_option maxHeartbeats 4000000 in
theorem holes_d (l m : List Bx) (u t : Value) (b : Bx) (dx dy dz : Int) (hr : rightB l m = true) (hv : modestS l m = true) (h3 : l.length ≤ 3) (k3 : 3 < m.length) (w : World) (hl : Boxes w u l) (hm : Boxes w t m) :
    Calls Try.prog 5 #[.agg #[u, t], (.agg #[.int .i64 b.lx, .int .i64 b.ly, .int .i64 b.lz, .int .i64 b.hx, .int .i64 b.hy, .int .i64 b.hz]), .int .i16 dx, .int .i16 dy, .int .i16 dz] w (Ret w (.bool true)) := by
  obtain ⟨ua, uc, rfl, -, -, u4⟩ := hl.shape
  obtain ⟨ta, tc, rfl, -, -, t4⟩ := hm.shape
  have HL := Lib.hid hl
  have HM := Lib.hid hm
  have HU4 := Lib.hid u4
  have HT4 := Lib.hid t4
  clear hl hm u4 t4
  have HR := Lib.hid hr
  obtain ⟨⟨n1, n2⟩, -⟩ := right_iff.1 hr
  clear hr
  have HV := Lib.hid hv
  clear hv
  have d1 : decide ((3 : Int) < (l.length : Int)) = false := by simp; omega
  have d2 : decide ((3 : Int) < (m.length : Int)) = true := by simp; omega
  clear h3 k3
  go_enter Try.func5, Try.ntmps5
  go_wp2_with fail
  go_at_call 9; refine (awake17_c _).mono ?_; rintro e w' ⟨rfl, x0, rfl⟩
  go_upto_region 4 with fail
  refine world_mask (fun W => HoK w (.slice ua l.length uc) (.slice ta m.length tc) (w.heap.size + 1) (w.heap.size + 1 + 1) (w.heap.size + 1 + 1 + 1) (w.heap.size + 1 + 1 + 1 + 1) (w.heap.size + 1 + 1 + 1 + 1 + 1 + x0.heap.size) (w.heap.size + 1 + 1 + 1 + 1 + 1 + x0.heap.size + 1) b dx dy dz W) _ ?_ ?_
  · exact ⟨by (repeat (first | exact grow_refl _ | refine grow_ext _ ?_ | refine grow_alloc _ ?_ | refine grow_drew ?_)), ((((((Blk.new _ _ _).alloc _).alloc _).alloc _).alloc _).ext _).alloc _ |>.alloc _, ((((((Blk.new' (by simp only [World.size_alloc]) _ _).alloc _).alloc _).alloc _).ext _).alloc _).alloc _, (((((Blk.new' (by simp only [World.size_alloc]) _ _).alloc _).alloc _).ext _).alloc _).alloc _, ((((Blk.new' (by simp only [World.size_alloc]) _ _).alloc _).ext _).alloc _).alloc _, (((Blk.new' (by simp only [World.size_alloc]) _ _).ext _).alloc _).alloc _, (Blk.new' (by simp only [World.size_alloc, size_ext]) _ _).alloc _, Blk.new' (by simp only [World.size_alloc, size_ext]) _ _⟩
  intro W0 hK
  generalize w.heap.size + 1 + 1 + 1 + 1 + 1 + x0.heap.size + 1 = g11 at *
  generalize w.heap.size + 1 + 1 + 1 + 1 + 1 + x0.heap.size = gs at *
  generalize w.heap.size + 1 + 1 + 1 + 1 = gz at *
  generalize w.heap.size + 1 + 1 + 1 = gy at *
  generalize w.heap.size + 1 + 1 = gx at *
  generalize w.heap.size + 1 = g6 at *
  have HKK := Lib.hid hK
  have hb0 := hK.below
  have HB0 := Lib.hid hb0
  have c50 : W0.cell? ⟨w.heap.size, 0, none⟩ = some (.slice ua l.length uc) := hK.b5.cell 0
  have c51 : W0.cell? ⟨w.heap.size, 1, none⟩ = some (.slice ta m.length tc) := hK.b5.cell 1
  have c110 : W0.cell? ⟨g11, 0, none⟩ = some (.slice (some ⟨gs, 0, none⟩) 1 1) := hK.b11.cell 0
  have c111 : W0.cell? ⟨g11, 1, none⟩ = some (.slice none 0 0) := hK.b11.cell 1
  have HBX := Lib.hid (boxes_blk hK.bs)
  have HLB := Lib.hid (HL.out.below hb0)
  have HMB := Lib.hid (HM.out.below hb0)
  clear hK hb0
  go_wp2_with fail
  go_at_call 10; refine (right17_v l m _ _ _ HR.out _ (HLB.out.below (by (repeat (first | exact grow_refl _ | refine grow_ext _ ?_ | refine grow_alloc _ ?_ | refine grow_drew ?_)))) (HMB.out.below (by (repeat (first | exact grow_refl _ | refine grow_ext _ ?_ | refine grow_alloc _ ?_ | refine grow_drew ?_))))).mono ?_; rintro e w' ⟨rfl, y1, rfl⟩
  go_wp2_with fail
  go_at_call 17; refine (modest17_v l m _ _ _ HV.out (by omega) (by omega) _ (HLB.out.below (by (repeat (first | exact grow_refl _ | refine grow_ext _ ?_ | refine grow_alloc _ ?_ | refine grow_drew ?_)))) (HMB.out.below (by (repeat (first | exact grow_refl _ | refine grow_ext _ ?_ | refine grow_alloc _ ?_ | refine grow_drew ?_))))).mono ?_; rintro e w' ⟨rfl, y2, rfl⟩
  go_wp2
  go_ret
  exact Ret.of (HB0.out.trans (Below.mono (by (repeat (first | exact grow_refl _ | refine grow_ext _ ?_ | refine grow_alloc _ ?_ | refine grow_drew ?_))) HB0.out.size))

set_option maxRecDepth 100000 in
set_option maxHeartbeats 4000000 in
theorem holes_e (l m : List Bx) (u t : Value) (b : Bx) (dx dy dz : Int) (hr : rightB l m = true) (hv : modestS l m = true) (h3 : l.length ≤ 3) (k3 : m.length ≤ 3) (he : solidB [b] [] = false) (w : World) (hl : Boxes w u l) (hm : Boxes w t m) :
    Calls Try.prog 5 #[.agg #[u, t], (.agg #[.int .i64 b.lx, .int .i64 b.ly, .int .i64 b.lz, .int .i64 b.hx, .int .i64 b.hy, .int .i64 b.hz]), .int .i16 dx, .int .i16 dy, .int .i16 dz] w (Ret w (.bool true)) := by
  obtain ⟨ua, uc, rfl, -, -, u4⟩ := hl.shape
  obtain ⟨ta, tc, rfl, -, -, t4⟩ := hm.shape
  have HL := Lib.hid hl
  have HM := Lib.hid hm
  have HU4 := Lib.hid u4
  have HT4 := Lib.hid t4
  clear hl hm u4 t4
  have HR := Lib.hid hr
  obtain ⟨⟨n1, n2⟩, -⟩ := right_iff.1 hr
  clear hr
  have HV := Lib.hid hv
  clear hv
  have d1 : decide ((3 : Int) < (l.length : Int)) = false := by simp; omega
  have d2 : decide ((3 : Int) < (m.length : Int)) = false := by simp; omega
  have HE := Lib.hid he
  clear he h3 k3
  go_enter Try.func5, Try.ntmps5
  go_wp2_with fail
  go_at_call 9; refine (awake17_c _).mono ?_; rintro e w' ⟨rfl, x0, rfl⟩
  go_upto_region 4 with fail
  refine world_mask (fun W => HoK w (.slice ua l.length uc) (.slice ta m.length tc) (w.heap.size + 1) (w.heap.size + 1 + 1) (w.heap.size + 1 + 1 + 1) (w.heap.size + 1 + 1 + 1 + 1) (w.heap.size + 1 + 1 + 1 + 1 + 1 + x0.heap.size) (w.heap.size + 1 + 1 + 1 + 1 + 1 + x0.heap.size + 1) b dx dy dz W) _ ?_ ?_
  · exact ⟨by (repeat (first | exact grow_refl _ | refine grow_ext _ ?_ | refine grow_alloc _ ?_ | refine grow_drew ?_)), ((((((Blk.new _ _ _).alloc _).alloc _).alloc _).alloc _).ext _).alloc _ |>.alloc _, ((((((Blk.new' (by simp only [World.size_alloc]) _ _).alloc _).alloc _).alloc _).ext _).alloc _).alloc _, (((((Blk.new' (by simp only [World.size_alloc]) _ _).alloc _).alloc _).ext _).alloc _).alloc _, ((((Blk.new' (by simp only [World.size_alloc]) _ _).alloc _).ext _).alloc _).alloc _, (((Blk.new' (by simp only [World.size_alloc]) _ _).ext _).alloc _).alloc _, (Blk.new' (by simp only [World.size_alloc, size_ext]) _ _).alloc _, Blk.new' (by simp only [World.size_alloc, size_ext]) _ _⟩
  intro W0 hK
  generalize w.heap.size + 1 + 1 + 1 + 1 + 1 + x0.heap.size + 1 = g11 at *
  generalize w.heap.size + 1 + 1 + 1 + 1 + 1 + x0.heap.size = gs at *
  generalize w.heap.size + 1 + 1 + 1 + 1 = gz at *
  generalize w.heap.size + 1 + 1 + 1 = gy at *
  generalize w.heap.size + 1 + 1 = gx at *
  generalize w.heap.size + 1 = g6 at *
  have HKK := Lib.hid hK
  have hb0 := hK.below
  have HB0 := Lib.hid hb0
  have c50 : W0.cell? ⟨w.heap.size, 0, none⟩ = some (.slice ua l.length uc) := hK.b5.cell 0
  have c51 : W0.cell? ⟨w.heap.size, 1, none⟩ = some (.slice ta m.length tc) := hK.b5.cell 1
  have c110 : W0.cell? ⟨g11, 0, none⟩ = some (.slice (some ⟨gs, 0, none⟩) 1 1) := hK.b11.cell 0
  have c111 : W0.cell? ⟨g11, 1, none⟩ = some (.slice none 0 0) := hK.b11.cell 1
  have HBX := Lib.hid (boxes_blk hK.bs)
  have HLB := Lib.hid (HL.out.below hb0)
  have HMB := Lib.hid (HM.out.below hb0)
  clear hK hb0
  go_wp2_with fail
  go_at_call 10; refine (right17_v l m _ _ _ HR.out _ (HLB.out.below (by (repeat (first | exact grow_refl _ | refine grow_ext _ ?_ | refine grow_alloc _ ?_ | refine grow_drew ?_)))) (HMB.out.below (by (repeat (first | exact grow_refl _ | refine grow_ext _ ?_ | refine grow_alloc _ ?_ | refine grow_drew ?_))))).mono ?_; rintro e w' ⟨rfl, y1, rfl⟩
  go_wp2_with fail
  go_at_call 17; refine (modest17_v l m _ _ _ HV.out (by omega) (by omega) _ (HLB.out.below (by (repeat (first | exact grow_refl _ | refine grow_ext _ ?_ | refine grow_alloc _ ?_ | refine grow_drew ?_)))) (HMB.out.below (by (repeat (first | exact grow_refl _ | refine grow_ext _ ?_ | refine grow_alloc _ ?_ | refine grow_drew ?_))))).mono ?_; rintro e w' ⟨rfl, y2, rfl⟩
  go_wp2_with fail
  go_at_call 24; refine (refSolid_v [b] [] _ _ _ HE.out _ (HBX.out.below (by (repeat (first | exact grow_refl _ | refine grow_ext _ ?_ | refine grow_alloc _ ?_ | refine grow_drew ?_)))) (boxes_nil _)).mono ?_; rintro e w' ⟨rfl, y3, rfl⟩
  go_wp2
  go_ret
  exact Ret.of (HB0.out.trans (Below.mono (by (repeat (first | exact grow_refl _ | refine grow_ext _ ?_ | refine grow_alloc _ ?_ | refine grow_drew ?_))) HB0.out.size))

set_option maxRecDepth 100000 in
set_option maxHeartbeats 4000000 in
theorem holes_f (l m : List Bx) (u t : Value) (b : Bx) (dx dy dz : Int) (hr : rightB l m = true) (hv : modestS l m = true) (h3 : l.length ≤ 3) (k3 : m.length ≤ 3) (he : solidB [b] [] = true) (hf : modestS [b] [] = false) (w : World) (hl : Boxes w u l) (hm : Boxes w t m) :
    Calls Try.prog 5 #[.agg #[u, t], (.agg #[.int .i64 b.lx, .int .i64 b.ly, .int .i64 b.lz, .int .i64 b.hx, .int .i64 b.hy, .int .i64 b.hz]), .int .i16 dx, .int .i16 dy, .int .i16 dz] w (Ret w (.bool true)) := by
  obtain ⟨ua, uc, rfl, -, -, u4⟩ := hl.shape
  obtain ⟨ta, tc, rfl, -, -, t4⟩ := hm.shape
  have HL := Lib.hid hl
  have HM := Lib.hid hm
  have HU4 := Lib.hid u4
  have HT4 := Lib.hid t4
  clear hl hm u4 t4
  have HR := Lib.hid hr
  obtain ⟨⟨n1, n2⟩, -⟩ := right_iff.1 hr
  clear hr
  have HV := Lib.hid hv
  clear hv
  have d1 : decide ((3 : Int) < (l.length : Int)) = false := by simp; omega
  have d2 : decide ((3 : Int) < (m.length : Int)) = false := by simp; omega
  have HE := Lib.hid he
  have HE2 := Lib.hid hf
  clear he hf h3 k3
  go_enter Try.func5, Try.ntmps5
  go_wp2_with fail
  go_at_call 9; refine (awake17_c _).mono ?_; rintro e w' ⟨rfl, x0, rfl⟩
  go_upto_region 4 with fail
  refine world_mask (fun W => HoK w (.slice ua l.length uc) (.slice ta m.length tc) (w.heap.size + 1) (w.heap.size + 1 + 1) (w.heap.size + 1 + 1 + 1) (w.heap.size + 1 + 1 + 1 + 1) (w.heap.size + 1 + 1 + 1 + 1 + 1 + x0.heap.size) (w.heap.size + 1 + 1 + 1 + 1 + 1 + x0.heap.size + 1) b dx dy dz W) _ ?_ ?_
  · exact ⟨by (repeat (first | exact grow_refl _ | refine grow_ext _ ?_ | refine grow_alloc _ ?_ | refine grow_drew ?_)), ((((((Blk.new _ _ _).alloc _).alloc _).alloc _).alloc _).ext _).alloc _ |>.alloc _, ((((((Blk.new' (by simp only [World.size_alloc]) _ _).alloc _).alloc _).alloc _).ext _).alloc _).alloc _, (((((Blk.new' (by simp only [World.size_alloc]) _ _).alloc _).alloc _).ext _).alloc _).alloc _, ((((Blk.new' (by simp only [World.size_alloc]) _ _).alloc _).ext _).alloc _).alloc _, (((Blk.new' (by simp only [World.size_alloc]) _ _).ext _).alloc _).alloc _, (Blk.new' (by simp only [World.size_alloc, size_ext]) _ _).alloc _, Blk.new' (by simp only [World.size_alloc, size_ext]) _ _⟩
  intro W0 hK
  generalize w.heap.size + 1 + 1 + 1 + 1 + 1 + x0.heap.size + 1 = g11 at *
  generalize w.heap.size + 1 + 1 + 1 + 1 + 1 + x0.heap.size = gs at *
  generalize w.heap.size + 1 + 1 + 1 + 1 = gz at *
  generalize w.heap.size + 1 + 1 + 1 = gy at *
  generalize w.heap.size + 1 + 1 = gx at *
  generalize w.heap.size + 1 = g6 at *
  have HKK := Lib.hid hK
  have hb0 := hK.below
  have HB0 := Lib.hid hb0
  have c50 : W0.cell? ⟨w.heap.size, 0, none⟩ = some (.slice ua l.length uc) := hK.b5.cell 0
  have c51 : W0.cell? ⟨w.heap.size, 1, none⟩ = some (.slice ta m.length tc) := hK.b5.cell 1
  have c110 : W0.cell? ⟨g11, 0, none⟩ = some (.slice (some ⟨gs, 0, none⟩) 1 1) := hK.b11.cell 0
  have c111 : W0.cell? ⟨g11, 1, none⟩ = some (.slice none 0 0) := hK.b11.cell 1
  have HBX := Lib.hid (boxes_blk hK.bs)
  have HLB := Lib.hid (HL.out.below hb0)
  have HMB := Lib.hid (HM.out.below hb0)
  clear hK hb0
  go_wp2_with fail
  go_at_call 10; refine (right17_v l m _ _ _ HR.out _ (HLB.out.below (by (repeat (first | exact grow_refl _ | refine grow_ext _ ?_ | refine grow_alloc _ ?_ | refine grow_drew ?_)))) (HMB.out.below (by (repeat (first | exact grow_refl _ | refine grow_ext _ ?_ | refine grow_alloc _ ?_ | refine grow_drew ?_))))).mono ?_; rintro e w' ⟨rfl, y1, rfl⟩
  go_wp2_with fail
  go_at_call 17; refine (modest17_v l m _ _ _ HV.out (by omega) (by omega) _ (HLB.out.below (by (repeat (first | exact grow_refl _ | refine grow_ext _ ?_ | refine grow_alloc _ ?_ | refine grow_drew ?_)))) (HMB.out.below (by (repeat (first | exact grow_refl _ | refine grow_ext _ ?_ | refine grow_alloc _ ?_ | refine grow_drew ?_))))).mono ?_; rintro e w' ⟨rfl, y2, rfl⟩
  go_wp2_with fail
  go_at_call 24; refine (refSolid_v [b] [] _ _ _ HE.out _ (HBX.out.below (by (repeat (first | exact grow_refl _ | refine grow_ext _ ?_ | refine grow_alloc _ ?_ | refine grow_drew ?_)))) (boxes_nil _)).mono ?_; rintro e w' ⟨rfl, y3, rfl⟩
  go_wp2_with fail
  go_at_call 17; refine (modest17_v [b] [] _ _ _ HE2.out (show 1 ≤ 1000 by decide) (show 0 ≤ 1000 by decide) _ (HBX.out.below (by (repeat (first | exact grow_refl _ | refine grow_ext _ ?_ | refine grow_alloc _ ?_ | refine grow_drew ?_)))) (boxes_nil _)).mono ?_; rintro e w' ⟨rfl, y4, rfl⟩
  go_wp2
  go_ret
  exact Ret.of (HB0.out.trans (Below.mono (by (repeat (first | exact grow_refl _ | refine grow_ext _ ?_ | refine grow_alloc _ ?_ | refine grow_drew ?_))) HB0.out.size))

set_option maxRecDepth 100000 in
set_option maxHeartbeats 16000000 in
theorem holes_ok (l m : List Bx) (u t : Value) (b : Bx) (dx dy dz : Int) (hr : rightB l m = true) (hv : modestS l m = true) (h3 : l.length ≤ 3) (k3 : m.length ≤ 3) (he : solidB [b] [] = true) (hf : modestS [b] [] = true) (kx : -32768 ≤ dx ∧ dx ≤ 32767) (ky : -32768 ≤ dy ∧ dy ≤ 32767) (kz : -32768 ≤ dz ∧ dz ≤ 32767) (w : World) (hl : Boxes w u l) (hm : Boxes w t m) :
    Calls Try.prog 5 #[.agg #[u, t], (.agg #[.int .i64 b.lx, .int .i64 b.ly, .int .i64 b.lz, .int .i64 b.hx, .int .i64 b.hy, .int .i64 b.hz]), .int .i16 dx, .int .i16 dy, .int .i16 dz] w (Ret w (.bool true)) := by
  obtain ⟨v, x, y, s, e1, e2, e3, e4, e5, p1, p2, p3, p4, p5, p6, p7, p8, p9, p10⟩ := holes_facts (right_iff.1 hr).2 hv h3 k3 he hf kx ky kz
  have HP := Lib.hid (And.intro p1 (And.intro p2 (And.intro p3 (And.intro p4 (And.intro p6 p7)))))
  have HP5 := Lib.hid p5
  have HS0 := Lib.hid (right_iff.1 hr).2
  have HGP := Lib.hid (fun w => Gap_ok (hullX l) b p9 p8 w)
  have HSZ := Lib.hid (fun w => sizeH_c b p8 p10 w)
  have HHU := Lib.hid (fun u t w hl hm => solidHull_c l m u t w hl hm)
  have HV1 := Lib.hid (fun u t w hl hm => volume_c l m u t w hl hm)
  have HV2 := Lib.hid (fun u t w hl hm => volume_c l (m ++ [b]) u t w hl hm)
  have HV3 := Lib.hid (fun u t w hl hm => volume_c (l ++ [b]) m u t w hl hm)
  have HV4 := Lib.hid (fun u t w hl hm => volume_c (l.map (movedX dx dy dz)) (m.map (movedX dx dy dz)) u t w hl hm)
  rw [e1] at HV1
  rw [e2] at HV2
  rw [e3] at HV3
  rw [e4] at HV4
  rw [e5] at HSZ
  rw [show hullS l m = (hullX l, 0) by unfold hullS; rw [if_pos (right_iff.1 hr).2]] at HHU
  have HRC := Lib.hid (fun u t w hl hm => refCopy_c l m u t (by omega) (by omega) w hl hm)
  have HLN := Lib.hid (And.intro h3 k3)
  have HTH := Lib.hid (fun (k : Nat) (h : k < l.length) => (thick_iff.1 (List.all_eq_true.1 (solid_iff.1 (right_iff.1 hr).2).2.2.1 _ (List.getElem_mem h))).1)
  have HTM := Lib.hid (fun (k : Nat) (h : k < m.length) => (thick_iff.1 (List.all_eq_true.1 (solid_iff.1 (right_iff.1 hr).2).2.2.2 _ (List.getElem_mem h))).1)
  have HXYZ := Lib.hid (And.intro kx (And.intro ky kz))
  clear e1 e2 e3 e4 e5 p1 p2 p3 p4 p5 p6 p7 p8 p9 p10 kx ky kz
  obtain ⟨ua, uc, rfl, -, -, u4⟩ := hl.shape
  obtain ⟨ta, tc, rfl, -, -, t4⟩ := hm.shape
  have HL := Lib.hid hl
  have HM := Lib.hid hm
  have HU4 := Lib.hid u4
  have HT4 := Lib.hid t4
  clear hl hm u4 t4
  have HR := Lib.hid hr
  obtain ⟨⟨n1, n2⟩, -⟩ := right_iff.1 hr
  clear hr
  have HV := Lib.hid hv
  clear hv
  have d1 : decide ((3 : Int) < (l.length : Int)) = false := by simp; omega
  have d2 : decide ((3 : Int) < (m.length : Int)) = false := by simp; omega
  have HE := Lib.hid he
  have HE2 := Lib.hid hf
  clear he hf h3 k3
  go_enter Try.func5, Try.ntmps5
  go_wp2_with fail
  go_at_call 9; refine (awake17_c _).mono ?_; rintro e w' ⟨rfl, x0, rfl⟩
  go_upto_region 4 with fail
  refine world_mask (fun W => HoK w (.slice ua l.length uc) (.slice ta m.length tc) (w.heap.size + 1) (w.heap.size + 1 + 1) (w.heap.size + 1 + 1 + 1) (w.heap.size + 1 + 1 + 1 + 1) (w.heap.size + 1 + 1 + 1 + 1 + 1 + x0.heap.size) (w.heap.size + 1 + 1 + 1 + 1 + 1 + x0.heap.size + 1) b dx dy dz W) _ ?_ ?_
  · exact ⟨by (repeat (first | exact grow_refl _ | refine grow_ext _ ?_ | refine grow_alloc _ ?_ | refine grow_drew ?_)), ((((((Blk.new _ _ _).alloc _).alloc _).alloc _).alloc _).ext _).alloc _ |>.alloc _, ((((((Blk.new' (by simp only [World.size_alloc]) _ _).alloc _).alloc _).alloc _).ext _).alloc _).alloc _, (((((Blk.new' (by simp only [World.size_alloc]) _ _).alloc _).alloc _).ext _).alloc _).alloc _, ((((Blk.new' (by simp only [World.size_alloc]) _ _).alloc _).ext _).alloc _).alloc _, (((Blk.new' (by simp only [World.size_alloc]) _ _).ext _).alloc _).alloc _, (Blk.new' (by simp only [World.size_alloc, size_ext]) _ _).alloc _, Blk.new' (by simp only [World.size_alloc, size_ext]) _ _⟩
  intro W0 hK
  generalize w.heap.size + 1 + 1 + 1 + 1 + 1 + x0.heap.size + 1 = g11 at *
  generalize w.heap.size + 1 + 1 + 1 + 1 + 1 + x0.heap.size = gs at *
  generalize w.heap.size + 1 + 1 + 1 + 1 = gz at *
  generalize w.heap.size + 1 + 1 + 1 = gy at *
  generalize w.heap.size + 1 + 1 = gx at *
  generalize w.heap.size + 1 = g6 at *
  have HKK := Lib.hid hK
  have hb0 := hK.below
  have HB0 := Lib.hid hb0
  have c50 : W0.cell? ⟨w.heap.size, 0, none⟩ = some (.slice ua l.length uc) := hK.b5.cell 0
  have c51 : W0.cell? ⟨w.heap.size, 1, none⟩ = some (.slice ta m.length tc) := hK.b5.cell 1
  have c110 : W0.cell? ⟨g11, 0, none⟩ = some (.slice (some ⟨gs, 0, none⟩) 1 1) := hK.b11.cell 0
  have c111 : W0.cell? ⟨g11, 1, none⟩ = some (.slice none 0 0) := hK.b11.cell 1
  have HBX := Lib.hid (boxes_blk hK.bs)
  have HLB := Lib.hid (HL.out.below hb0)
  have HMB := Lib.hid (HM.out.below hb0)
  clear hK hb0
  go_wp2_with fail
  go_at_call 10; refine (right17_v l m _ _ _ HR.out _ (HLB.out.below (by (repeat (first | exact grow_refl _ | refine grow_ext _ ?_ | refine grow_alloc _ ?_ | refine grow_drew ?_)))) (HMB.out.below (by (repeat (first | exact grow_refl _ | refine grow_ext _ ?_ | refine grow_alloc _ ?_ | refine grow_drew ?_))))).mono ?_; rintro e w' ⟨rfl, y1, rfl⟩
  go_wp2_with fail
  go_at_call 17; refine (modest17_v l m _ _ _ HV.out (by omega) (by omega) _ (HLB.out.below (by (repeat (first | exact grow_refl _ | refine grow_ext _ ?_ | refine grow_alloc _ ?_ | refine grow_drew ?_)))) (HMB.out.below (by (repeat (first | exact grow_refl _ | refine grow_ext _ ?_ | refine grow_alloc _ ?_ | refine grow_drew ?_))))).mono ?_; rintro e w' ⟨rfl, y2, rfl⟩
  go_wp2_with fail
  go_at_call 24; refine (refSolid_v [b] [] _ _ _ HE.out _ (HBX.out.below (by (repeat (first | exact grow_refl _ | refine grow_ext _ ?_ | refine grow_alloc _ ?_ | refine grow_drew ?_)))) (boxes_nil _)).mono ?_; rintro e w' ⟨rfl, y3, rfl⟩
  go_wp2_with fail
  go_at_call 17; refine (modest17_v [b] [] _ _ _ HE2.out (show 1 ≤ 1000 by decide) (show 0 ≤ 1000 by decide) _ (HBX.out.below (by (repeat (first | exact grow_refl _ | refine grow_ext _ ?_ | refine grow_alloc _ ?_ | refine grow_drew ?_)))) (boxes_nil _)).mono ?_; rintro e w' ⟨rfl, y4, rfl⟩
  go_wp2_with fail
  go_at_call 18; refine (HV1.out _ _ _ (HLB.out.below (by (repeat (first | exact grow_refl _ | refine grow_ext _ ?_ | refine grow_alloc _ ?_ | refine grow_drew ?_)))) (HMB.out.below (by (repeat (first | exact grow_refl _ | refine grow_ext _ ?_ | refine grow_alloc _ ?_ | refine grow_drew ?_))))).mono ?_; rintro e w' ⟨rfl, y5, rfl⟩
  go_wp2_with fail
  go_at_call 19; refine (HHU.out _ _ _ (HLB.out.below (by (repeat (first | exact grow_refl _ | refine grow_ext _ ?_ | refine grow_alloc _ ?_ | refine grow_drew ?_)))) (HMB.out.below (by (repeat (first | exact grow_refl _ | refine grow_ext _ ?_ | refine grow_alloc _ ?_ | refine grow_drew ?_))))).mono ?_; rintro e w' ⟨rfl, y6, rfl⟩
  go_upto_region 8 with fail
  obtain ⟨g14, hg14⟩ : ∃ g, g = (ext (ext (ext (ext (ext (ext W0 y1) y2) y3) y4) y5) y6).heap.size := ⟨_, rfl⟩
  simp only [size_ext] at hg14
  rw [← hg14]
  refine world_mask (fun W => HoK w (.slice ua l.length uc) (.slice ta m.length tc) g6 gx gy gz gs g11 b dx dy dz W ∧ Blk W g14 #[.int .i64 (hullX l).lx, .int .i64 (hullX l).ly, .int .i64 (hullX l).lz, .int .i64 (hullX l).hx, .int .i64 (hullX l).hy, .int .i64 (hullX l).hz] 28) _ ⟨HKK.out.move (by (repeat (first | exact grow_refl _ | refine grow_ext _ ?_ | refine grow_alloc _ ?_ | refine grow_drew ?_))), Blk.new' (by simp only [size_ext]; exact hg14) _ _⟩ ?_
  rintro W1 hke
  have HK1 := Lib.hid hke
  have HL1 := Lib.hid (HL.out.below hke.1.below)
  have HM1 := Lib.hid (HM.out.below hke.1.below)
  clear hke hg14 c50 c51 c110 c111 HKK HLB HMB HBX HB0
  have hok : chOk (⟨1, 4, 6⟩ : Ch) (⟨3, 5, 7⟩ : Ch) := (show ([1, 4, 6, 3, 5, 7] : List Nat).Nodup by decide)
  have hok2 : chOk (⟨3, 5, 7⟩ : Ch) (⟨1, 4, 6⟩ : Ch) := (show ([3, 5, 7, 1, 4, 6] : List Nat).Nodup by decide)
  have hpart : PartG [1, 4, 6, 3, 5, 7] (CpK 24 l m W1 (⟨1, 4, 6⟩ : Ch) (⟨3, 5, 7⟩ : Ch)) := (show PartG (Ch.ks (⟨1, 4, 6⟩ : Ch) ++ Ch.ks (⟨3, 5, 7⟩ : Ch)) (CpK 24 l m W1 (⟨1, 4, 6⟩ : Ch) (⟨3, 5, 7⟩ : Ch)) from CpK.part)
  have HPART := Lib.hid hpart
  clear hpart
  refine wp_region_G [(.agg #[.slice ua l.length uc, .slice ta m.length tc]), undef, (.agg #[.slice ua l.length uc, .slice ta m.length tc]), undef, undef, undef, undef, undef] [1, 4, 6, 3, 5, 7] (CpK 24 l m W1 (⟨1, 4, 6⟩ : Ch) (⟨3, 5, 7⟩ : Ch)) (by kernel_rfl) (by kernel_rfl) ?_ ?_ ?_
  · intro vs hlen
    refine CpK.init (fun k hk => rep_false' ?_)
    have hk' : k ∈ ([1, 4, 6, 3, 5, 7] : List Nat) := hk
    simp only [List.mem_cons, List.not_mem_nil, or_false] at hk'
    show k < 8
    omega
  · intro L vs W i hlen hJ hi
    obtain ⟨x0, vs0, rfl, hlen0⟩ := len_cons hlen
    obtain ⟨x1, vs1, rfl, hlen1⟩ := len_cons hlen0
    obtain ⟨x2, vs2, rfl, hlen2⟩ := len_cons hlen1
    obtain ⟨x3, vs3, rfl, hlen3⟩ := len_cons hlen2
    obtain ⟨x4, vs4, rfl, hlen4⟩ := len_cons hlen3
    obtain ⟨x5, vs5, rfl, hlen5⟩ := len_cons hlen4
    obtain ⟨x6, vs6, rfl, hlen6⟩ := len_cons hlen5
    obtain ⟨x7, vs7, rfl, hlen7⟩ := len_cons hlen6
    obtain rfl := len_nil hlen7
    clear hlen hlen0 hlen1 hlen2 hlen3 hlen4 hlen5 hlen6 hlen7
    obtain ⟨hun, o, ho, hd⟩ := mem_ready.1 hi
    have hin : i < 8 := by have := (Array.getElem?_eq_some_iff.1 ho).1; simpa using this
    refine wpOp_free (B := fun a' W' => ∃ x0 x1 x2 x3 x4 x5 x6 x7, a' = putAll _ [x0, x1, x2, x3, x4, x5, x6, x7] _ ∧ InvG _ _ _ [x0, x1, x2, x3, x4, x5, x6, x7] (L.setIfInBounds i true) W') (fun _ _ h => by obtain ⟨x0, x1, x2, x3, x4, x5, x6, x7, h1, h2⟩ := h; exact ⟨[x0, x1, x2, x3, x4, x5, x6, x7], rfl, h1, h2⟩) ?_
    intro K HK
    simp only [putAll_cons, putAll_nil, put_some, put_none, List.setIfInBounds_toArray, List.set_cons_succ, List.set_cons_zero] at HK ⊢
    have HOK := Lib.hid hok
    have HOK2 := Lib.hid hok2
    clear hok hok2
    have c50 : W.cell? ⟨w.heap.size, 0, none⟩ = some (.slice ua l.length uc) := (HK1.out.1.b5.below hJ.part.below).cell 0
    have c51 : W.cell? ⟨w.heap.size, 1, none⟩ = some (.slice ta m.length tc) := (HK1.out.1.b5.below hJ.part.below).cell 1
    rcases (show i = 0 ∨ i = 1 ∨ i = 2 ∨ i = 3 ∨ i = 4 ∨ i = 5 ∨ i = 6 ∨ i = 7 by omega) with rfl | rfl | rfl | rfl | rfl | rfl | rfl | rfl
    · obtain rfl := Option.some.inj ho
      refine wpOp_of_list (by rfl) ?_
      go_wp2
      exact HK.out _ _ ⟨_, _, _, _, _, _, _, _, rfl, hJ.up HPART.out 0 (by decide) (show 0 < 8 by decide) rfl⟩
    · obtain rfl := Option.some.inj ho
      have d0 : x0 = (.agg #[.slice ua l.length uc, .slice ta m.length tc]) := hJ.val 0 (show 0 < 8 by decide) (by decide) (getD_upJ (hd ⟨0, .data⟩ (by simp) (by rfl)))
      subst d0
      refine wpOp_of_list (by rfl) ?_
      go_wp2_with fail
      go_at_call 25; refine (HRC.out _ _ _ (HL1.out.below hJ.part.below) (HM1.out.below hJ.part.below)).mono ?_; rintro e w' ⟨u1, t1, rfl, o1, o2, o3, xq, rfl⟩
      have HST := Lib.hid (hJ.part.stepC HOK.out (show 1 < 8 by decide) hun ⟨u1, t1, rfl, o1, o2, o3⟩ (below_ext _ xq))
      clear o1 o2 o3
      go_wp2
      exact HK.out _ _ ⟨_, _, _, _, _, _, _, _, rfl, hJ.spec 1 (by decide) _ (HST.out)⟩
    · obtain rfl := Option.some.inj ho
      refine wpOp_of_list (by rfl) ?_
      go_wp2
      exact HK.out _ _ ⟨_, _, _, _, _, _, _, _, rfl, hJ.up HPART.out 2 (by decide) (show 2 < 8 by decide) rfl⟩
    · obtain rfl := Option.some.inj ho
      have d2 : x2 = (.agg #[.slice ua l.length uc, .slice ta m.length tc]) := hJ.val 2 (show 2 < 8 by decide) (by decide) (getD_upJ (hd ⟨2, .data⟩ (by simp) (by rfl)))
      subst d2
      refine wpOp_of_list (by rfl) ?_
      go_wp2_with fail
      go_at_call 25; refine (HRC.out _ _ _ (HL1.out.below hJ.part.below) (HM1.out.below hJ.part.below)).mono ?_; rintro e w' ⟨u1, t1, rfl, o1, o2, o3, xq, rfl⟩
      have HST := Lib.hid (hJ.part.swap.stepC HOK2.out (show 3 < 8 by decide) hun ⟨u1, t1, rfl, o1, o2, o3⟩ (below_ext _ xq))
      clear o1 o2 o3
      go_wp2
      exact HK.out _ _ ⟨_, _, _, _, _, _, _, _, rfl, hJ.spec 3 (by decide) _ (HST.out.swap)⟩
    · obtain rfl := Option.some.inj ho
      refine wpOp_of_list (by rfl) ?_
      go_wp2
      exact HK.out _ _ ⟨_, _, _, _, _, _, _, _, rfl, hJ.spec 4 (by decide) _ ((hJ.part.stepM HOK.out (show 4 < 8 by decide) hun rfl))⟩
    · obtain rfl := Option.some.inj ho
      refine wpOp_of_list (by rfl) ?_
      go_wp2
      exact HK.out _ _ ⟨_, _, _, _, _, _, _, _, rfl, hJ.spec 5 (by decide) _ ((hJ.part.swap.stepM HOK2.out (show 5 < 8 by decide) hun rfl).swap)⟩
    · obtain rfl := Option.some.inj ho
      have hC := (getD_upJ (hd ⟨1, .data⟩ (by simp) (by rfl)))
      have hM := (getD_upJ (hd ⟨4, .data⟩ (by simp) (by rfl)))
      obtain ⟨gq, z0, z1, hp0, hge, hb0, -⟩ := hJ.part.a.made hM
      obtain ⟨u1, t1, e1, o1, o2, -⟩ := hJ.part.a.call hC
      have hp : x4 = .pointer (some ⟨gq, 0, none⟩) := hp0
      have hv : x1 = .agg #[u1, t1] := e1
      obtain ⟨qa, qc, rfl, -, -, -⟩ := own_shape o1
      obtain ⟨qa', qc', rfl, -, -, -⟩ := own_shape o2
      have HST := Lib.hid (hJ.part.stepS HOK.out (by decide) hC hM hp0 hb0 hge e1 (W' := (W.setCell ⟨gq, 0, none⟩ (.slice qa l.length qc)).setCell ⟨gq, 1, none⟩ (.slice qa' m.length qc')) (fun k hk => by rw [Below.heap_setCell _ _ _ _ hk, Below.heap_setCell _ _ _ _ hk]) (by simp [World.setCell]) rfl rfl rfl ((hb0.set 0 _).set 1 _))
      have qf0 : W.frozen? ⟨gq, 0, none⟩ = false := hb0.frozen 0
      have qf1 : W.frozen? ⟨gq, 1, none⟩ = false := hb0.frozen 1
      have qg0 : W.cell? ⟨gq, 0, none⟩ = some z0 := hb0.cell 0
      have qg1 : W.cell? ⟨gq, 1, none⟩ = some z1 := hb0.cell 1
      clear hp0 e1 o1 o2 hb0 hge hC hM
      subst hp hv
      refine wpOp_of_list (by rfl) ?_
      go_wp2
      exact HK.out _ _ ⟨_, _, _, _, _, _, _, _, rfl, hJ.spec0 6 (by decide) (HST.out)⟩
    · obtain rfl := Option.some.inj ho
      have hC := (getD_upJ (hd ⟨3, .data⟩ (by simp) (by rfl)))
      have hM := (getD_upJ (hd ⟨5, .data⟩ (by simp) (by rfl)))
      obtain ⟨gq, z0, z1, hp0, hge, hb0, -⟩ := hJ.part.swap.a.made hM
      obtain ⟨u1, t1, e1, o1, o2, -⟩ := hJ.part.swap.a.call hC
      have hp : x5 = .pointer (some ⟨gq, 0, none⟩) := hp0
      have hv : x3 = .agg #[u1, t1] := e1
      obtain ⟨qa, qc, rfl, -, -, -⟩ := own_shape o1
      obtain ⟨qa', qc', rfl, -, -, -⟩ := own_shape o2
      have HST := Lib.hid (hJ.part.swap.stepS HOK2.out (by decide) hC hM hp0 hb0 hge e1 (W' := (W.setCell ⟨gq, 0, none⟩ (.slice qa l.length qc)).setCell ⟨gq, 1, none⟩ (.slice qa' m.length qc')) (fun k hk => by rw [Below.heap_setCell _ _ _ _ hk, Below.heap_setCell _ _ _ _ hk]) (by simp [World.setCell]) rfl rfl rfl ((hb0.set 0 _).set 1 _))
      have qf0 : W.frozen? ⟨gq, 0, none⟩ = false := hb0.frozen 0
      have qf1 : W.frozen? ⟨gq, 1, none⟩ = false := hb0.frozen 1
      have qg0 : W.cell? ⟨gq, 0, none⟩ = some z0 := hb0.cell 0
      have qg1 : W.cell? ⟨gq, 1, none⟩ = some z1 := hb0.cell 1
      clear hp0 e1 o1 o2 hb0 hge hC hM
      subst hp hv
      refine wpOp_of_list (by rfl) ?_
      go_wp2
      exact HK.out _ _ ⟨_, _, _, _, _, _, _, _, rfl, hJ.spec0 7 (by decide) (HST.out.swap)⟩
  · intro vs L W hlen hJ hall
    obtain ⟨x0, vs0, rfl, hlen0⟩ := len_cons hlen
    obtain ⟨x1, vs1, rfl, hlen1⟩ := len_cons hlen0
    obtain ⟨x2, vs2, rfl, hlen2⟩ := len_cons hlen1
    obtain ⟨x3, vs3, rfl, hlen3⟩ := len_cons hlen2
    obtain ⟨x4, vs4, rfl, hlen4⟩ := len_cons hlen3
    obtain ⟨x5, vs5, rfl, hlen5⟩ := len_cons hlen4
    obtain ⟨x6, vs6, rfl, hlen6⟩ := len_cons hlen5
    obtain ⟨x7, vs7, rfl, hlen7⟩ := len_cons hlen6
    obtain rfl := len_nil hlen7
    clear hlen hlen0 hlen1 hlen2 hlen3 hlen4 hlen5 hlen6 hlen7
    have d0 : x0 = (.agg #[.slice ua l.length uc, .slice ta m.length tc]) := hJ.val 0 (show 0 < 8 by decide) (by decide) (hall 0 (of_decide_eq_true (by kernel_rfl)))
    have d2 : x2 = (.agg #[.slice ua l.length uc, .slice ta m.length tc]) := hJ.val 2 (show 2 < 8 by decide) (by decide) (hall 2 (of_decide_eq_true (by kernel_rfl)))
    subst d0 d2
    obtain ⟨g16, z0, z1, hp0, hge0, hbk0, hst0⟩ := hJ.part.a.made (hall 4 (of_decide_eq_true (by kernel_rfl)))
    obtain ⟨g17, z2, z3, hp1, hge1, hbk1, hst1⟩ := hJ.part.b.made (hall 5 (of_decide_eq_true (by kernel_rfl)))
    obtain ⟨u1, t1, e1, o1, o2, o3⟩ := hJ.part.a.call (hall 1 (of_decide_eq_true (by kernel_rfl)))
    obtain ⟨u2, t2, e2, o4, o5, o6⟩ := hJ.part.b.call (hall 3 (of_decide_eq_true (by kernel_rfl)))
    have q1 := e1.symm.trans (hst0 (hall 6 (of_decide_eq_true (by kernel_rfl))))
    have q2 := e2.symm.trans (hst1 (hall 7 (of_decide_eq_true (by kernel_rfl))))
    have hfar := hJ.part.far (hall 1 (of_decide_eq_true (by kernel_rfl))) (hall 3 (of_decide_eq_true (by kernel_rfl))) u1 t1 u2 t2 e1 e2
    have hdf := hJ.part.diff (hall 4 (of_decide_eq_true (by kernel_rfl))) (hall 5 (of_decide_eq_true (by kernel_rfl)))
    have hne : g16 ≠ g17 := fun e => hdf (by rw [hp0, hp1, e])
    have hbel := hJ.part.below
    simp only [Value.agg.injEq, Array.mk.injEq, List.cons.injEq, and_true] at q1 q2
    obtain ⟨rfl, rfl⟩ := q1
    obtain ⟨rfl, rfl⟩ := q2
    obtain ⟨a1, d1, rfl, -, -, -⟩ := own_shape o1
    obtain ⟨a2, d2, rfl, -, -, -⟩ := own_shape o2
    obtain ⟨a3, d3, rfl, -, -, -⟩ := own_shape o4
    obtain ⟨a4, d4, rfl, -, -, -⟩ := own_shape o5
    have h1' : x1 = _ := e1
    have h3' : x3 = _ := e2
    have h4' : x4 = .pointer (some ⟨g16, 0, none⟩) := hp0
    have h5' : x5 = .pointer (some ⟨g17, 0, none⟩) := hp1
    have HR8 := Lib.hid (And.intro o1 (And.intro o2 (And.intro o3 (And.intro o4 (And.intro o5 (And.intro o6 (And.intro hfar (And.intro hne (And.intro hge0 (And.intro hge1 (And.intro hbk0 hbk1)))))))))))
    have HK2 := Lib.hid (And.intro (HK1.out.1.move hbel) (HK1.out.2.below hbel))
    have HSZ1 := Lib.hid hbel
    clear hJ hall hp0 hp1 hge0 hge1 hbk0 hbk1 hst0 hst1 e1 e2 o1 o2 o3 o4 o5 o6 hfar hdf hne hbel hok hok2
    subst h1' h3' h4' h5'
    simp only [putAll_cons, putAll_nil, put_some, put_none, List.setIfInBounds_toArray, List.set_cons_succ, List.set_cons_zero]
    go_upto_region 9 with fail
    obtain ⟨W2, rfl⟩ : ∃ W' : World, W' = W := ⟨_, rfl⟩
    have hok : Rw.ok (⟨1, 3, 4, 11, g16, 1, #[.slice a1 l.length d1, .slice a2 m.length d2], .slice a2 m.length d2, m.length, boxCells m, boxCells [b]⟩ : Rw) (⟨6, 8, 9, 13, g17, 0, #[.slice a3 l.length d3, .slice a4 m.length d4], .slice a3 l.length d3, l.length, boxCells l, boxCells [b]⟩ : Rw) := rw_ok (by decide)
    have hok2 : Rw.ok (⟨6, 8, 9, 13, g17, 0, #[.slice a3 l.length d3, .slice a4 m.length d4], .slice a3 l.length d3, l.length, boxCells l, boxCells [b]⟩ : Rw) (⟨1, 3, 4, 11, g16, 1, #[.slice a1 l.length d1, .slice a2 m.length d2], .slice a2 m.length d2, m.length, boxCells m, boxCells [b]⟩ : Rw) := rw_ok (by decide)
    have hpart : PartG [1, 3, 4, 11, 6, 8, 9, 13] (DApp 28 24 6 W1.heap.size W2 (⟨1, 3, 4, 11, g16, 1, #[.slice a1 l.length d1, .slice a2 m.length d2], .slice a2 m.length d2, m.length, boxCells m, boxCells [b]⟩ : Rw) (⟨6, 8, 9, 13, g17, 0, #[.slice a3 l.length d3, .slice a4 m.length d4], .slice a3 l.length d3, l.length, boxCells l, boxCells [b]⟩ : Rw)) := (show PartG (Rw.ks (⟨1, 3, 4, 11, g16, 1, #[.slice a1 l.length d1, .slice a2 m.length d2], .slice a2 m.length d2, m.length, boxCells m, boxCells [b]⟩ : Rw) ++ Rw.ks (⟨6, 8, 9, 13, g17, 0, #[.slice a3 l.length d3, .slice a4 m.length d4], .slice a3 l.length d3, l.length, boxCells l, boxCells [b]⟩ : Rw)) (DApp 28 24 6 W1.heap.size W2 (⟨1, 3, 4, 11, g16, 1, #[.slice a1 l.length d1, .slice a2 m.length d2], .slice a2 m.length d2, m.length, boxCells m, boxCells [b]⟩ : Rw) (⟨6, 8, 9, 13, g17, 0, #[.slice a3 l.length d3, .slice a4 m.length d4], .slice a3 l.length d3, l.length, boxCells l, boxCells [b]⟩ : Rw)) from DApp.part)
    have HPART := Lib.hid hpart
    clear hpart
    refine wp_region_G [.pointer (some ⟨g16, 1, none⟩), undef, (Value.agg #[.int .i64 b.lx, .int .i64 b.ly, .int .i64 b.lz, .int .i64 b.hx, .int .i64 b.hy, .int .i64 b.hz]), undef, undef, .pointer (some ⟨g17, 0, none⟩), undef, (Value.agg #[.int .i64 b.lx, .int .i64 b.ly, .int .i64 b.lz, .int .i64 b.hx, .int .i64 b.hy, .int .i64 b.hz]), undef, undef, .pointer (some ⟨g16, 1, none⟩), undef, .pointer (some ⟨g17, 0, none⟩), undef] [1, 3, 4, 11, 6, 8, 9, 13] (DApp 28 24 6 W1.heap.size W2 (⟨1, 3, 4, 11, g16, 1, #[.slice a1 l.length d1, .slice a2 m.length d2], .slice a2 m.length d2, m.length, boxCells m, boxCells [b]⟩ : Rw) (⟨6, 8, 9, 13, g17, 0, #[.slice a3 l.length d3, .slice a4 m.length d4], .slice a3 l.length d3, l.length, boxCells l, boxCells [b]⟩ : Rw)) (by kernel_rfl) (by kernel_rfl) ?_ ?_ ?_
    · intro vs hlen
      refine DApp.init (fun k hk => rep_false' ?_) HR8.out.2.1 HR8.out.2.2.2.1 HR8.out.2.2.2.2.2.2.2.2.2.2.1 HR8.out.2.2.2.2.2.2.2.2.2.2.2 (fun k h => (HR8.out.2.2.2.2.2.2.1 k (.inr h)).1) HR8.out.2.2.2.2.2.2.2.1
      have hk' : k ∈ ([1, 3, 4, 11, 6, 8, 9, 13] : List Nat) := hk
      simp only [List.mem_cons, List.not_mem_nil, or_false] at hk'
      show k < 14
      omega
    · intro L vs W i hlen hJ hi
      obtain ⟨x0, vs0, rfl, hlen0⟩ := len_cons hlen
      obtain ⟨x1, vs1, rfl, hlen1⟩ := len_cons hlen0
      obtain ⟨x2, vs2, rfl, hlen2⟩ := len_cons hlen1
      obtain ⟨x3, vs3, rfl, hlen3⟩ := len_cons hlen2
      obtain ⟨x4, vs4, rfl, hlen4⟩ := len_cons hlen3
      obtain ⟨x5, vs5, rfl, hlen5⟩ := len_cons hlen4
      obtain ⟨x6, vs6, rfl, hlen6⟩ := len_cons hlen5
      obtain ⟨x7, vs7, rfl, hlen7⟩ := len_cons hlen6
      obtain ⟨x8, vs8, rfl, hlen8⟩ := len_cons hlen7
      obtain ⟨x9, vs9, rfl, hlen9⟩ := len_cons hlen8
      obtain ⟨x10, vs10, rfl, hlen10⟩ := len_cons hlen9
      obtain ⟨x11, vs11, rfl, hlen11⟩ := len_cons hlen10
      obtain ⟨x12, vs12, rfl, hlen12⟩ := len_cons hlen11
      obtain ⟨x13, vs13, rfl, hlen13⟩ := len_cons hlen12
      obtain rfl := len_nil hlen13
      clear hlen hlen0 hlen1 hlen2 hlen3 hlen4 hlen5 hlen6 hlen7 hlen8 hlen9 hlen10 hlen11 hlen12 hlen13
      obtain ⟨hun, o, ho, hd⟩ := mem_ready.1 hi
      have hin : i < 14 := by have := (Array.getElem?_eq_some_iff.1 ho).1; simpa using this
      refine wpOp_free (B := fun a' W' => ∃ x0 x1 x2 x3 x4 x5 x6 x7 x8 x9 x10 x11 x12 x13, a' = putAll _ [x0, x1, x2, x3, x4, x5, x6, x7, x8, x9, x10, x11, x12, x13] _ ∧ InvG _ _ _ [x0, x1, x2, x3, x4, x5, x6, x7, x8, x9, x10, x11, x12, x13] (L.setIfInBounds i true) W') (fun _ _ h => by obtain ⟨x0, x1, x2, x3, x4, x5, x6, x7, x8, x9, x10, x11, x12, x13, h1, h2⟩ := h; exact ⟨[x0, x1, x2, x3, x4, x5, x6, x7, x8, x9, x10, x11, x12, x13], rfl, h1, h2⟩) ?_
      intro K HK
      simp only [putAll_cons, putAll_nil, put_some, put_none, List.setIfInBounds_toArray, List.set_cons_succ, List.set_cons_zero] at HK ⊢
      have HOK := Lib.hid hok
      have HOK2 := Lib.hid hok2
      clear hok hok2
      have hb6 := HK2.out.1.b6.of_block ((hJ.part.base HSZ1.out.size HR8.out.2.2.2.2.2.2.2.2.1 HR8.out.2.2.2.2.2.2.2.2.2.1 (fun k e => (HR8.out.2.1.lt k e).1) (fun k e => (HR8.out.2.2.2.1.lt k e).1)).block _ HK1.out.1.b6.lt)
      have e0 : W.cell? ⟨g6, 0, none⟩ = some (.int .i64 b.lx) := hb6.cell 0
      have e1 : W.cell? ⟨g6, 1, none⟩ = some (.int .i64 b.ly) := hb6.cell 1
      have e2 : W.cell? ⟨g6, 2, none⟩ = some (.int .i64 b.lz) := hb6.cell 2
      have e3 : W.cell? ⟨g6, 3, none⟩ = some (.int .i64 b.hx) := hb6.cell 3
      have e4 : W.cell? ⟨g6, 4, none⟩ = some (.int .i64 b.hy) := hb6.cell 4
      have e5 : W.cell? ⟨g6, 5, none⟩ = some (.int .i64 b.hz) := hb6.cell 5
      clear hb6
      rcases (show i = 0 ∨ i = 1 ∨ i = 2 ∨ i = 3 ∨ i = 4 ∨ i = 5 ∨ i = 6 ∨ i = 7 ∨ i = 8 ∨ i = 9 ∨ i = 10 ∨ i = 11 ∨ i = 12 ∨ i = 13 by omega) with rfl | rfl | rfl | rfl | rfl | rfl | rfl | rfl | rfl | rfl | rfl | rfl | rfl | rfl
      · obtain rfl := Option.some.inj ho
        refine wpOp_of_list (by rfl) ?_
        go_wp2
        exact HK.out _ _ ⟨_, _, _, _, _, _, _, _, _, _, _, _, _, _, rfl, hJ.up HPART.out 0 (by decide) (show 0 < 14 by decide) rfl⟩
      · obtain rfl := Option.some.inj ho
        have d0 : x0 = .pointer (some ⟨g16, 1, none⟩) := hJ.val 0 (show 0 < 14 by decide) (by decide) (getD_upJ (hd ⟨0, .data⟩ (by simp) (by rfl)))
        subst d0
        have hc : W.cell? ⟨g16, 1, none⟩ = some (.slice a2 m.length d2) := hJ.part.cell hun (by rfl)
        refine wpOp_of_list (by rfl) ?_
        go_wp2
        exact HK.out _ _ ⟨_, _, _, _, _, _, _, _, _, _, _, _, _, _, rfl, hJ.spec 1 (by decide) _ ((hJ.part.stepL HOK.out (show 1 < 14 by decide) rfl))⟩
      · obtain rfl := Option.some.inj ho
        refine wpOp_of_list (by rfl) ?_
        go_wp2
        exact HK.out _ _ ⟨_, _, _, _, _, _, _, _, _, _, _, _, _, _, rfl, hJ.up HPART.out 2 (by decide) (show 2 < 14 by decide) rfl⟩
      · obtain rfl := Option.some.inj ho
        have d2 : x2 = (Value.agg #[.int .i64 b.lx, .int .i64 b.ly, .int .i64 b.lz, .int .i64 b.hx, .int .i64 b.hy, .int .i64 b.hz]) := hJ.val 2 (show 2 < 14 by decide) (by decide) (getD_upJ (hd ⟨2, .data⟩ (by simp) (by rfl)))
        subst d2
        refine wpOp_of_list (by rfl) ?_
        go_wp2
        exact HK.out _ _ ⟨_, _, _, _, _, _, _, _, _, _, _, _, _, _, rfl, hJ.spec 3 (by decide) _ ((hJ.part.stepB HOK.out (show 3 < 14 by decide) rfl rfl))⟩
      · obtain rfl := Option.some.inj ho
        have hkl := (getD_upJ (hd ⟨1, .data⟩ (by simp) (by rfl)))
        have dl : x1 = .slice a2 m.length d2 := hJ.part.r1.load hkl
        obtain ⟨gl, hl1, hl2, hl3⟩ := hJ.part.r1.lit (getD_upJ (hd ⟨3, .data⟩ (by simp) (by rfl)))
        have hl4 : x3 = .slice (some ⟨gl, 0, none⟩) 1 1 := hl1
        have hrow := hJ.part.r1.row0 hun
        subst dl hl4
        refine wpOp_of_list (by rfl) ?_
        refine app_own_w2 rfl _ _ 22 rfl 28 (.agg #[.int .i64 0, .int .i64 0, .int .i64 0, .int .i64 0, .int .i64 0, .int .i64 0]) 6 48 Try.underlying22 info_box' rfl (by decide) W1.heap.size (.slice a2 m.length d2) m.length _ _ rfl hrow gl 1 1 _ rfl (by rfl) hl3 (boxCells_one _) (by have := HLN.out; omega) (by decide) (by have := hJ.part.size; have := HSZ1.out.size; omega) ?_
        intro u' w' hown hg hw
        go_wp2
        exact HK.out _ _ ⟨_, _, _, _, _, _, _, _, _, _, _, _, _, _, rfl, hJ.spec 4 (by decide) _ ((hJ.part.stepA HOK.out (show 4 < 14 by decide) (by decide) hun hkl hown hg hw))⟩
      · obtain rfl := Option.some.inj ho
        refine wpOp_of_list (by rfl) ?_
        go_wp2
        exact HK.out _ _ ⟨_, _, _, _, _, _, _, _, _, _, _, _, _, _, rfl, hJ.up HPART.out 5 (by decide) (show 5 < 14 by decide) rfl⟩
      · obtain rfl := Option.some.inj ho
        have d5 : x5 = .pointer (some ⟨g17, 0, none⟩) := hJ.val 5 (show 5 < 14 by decide) (by decide) (getD_upJ (hd ⟨5, .data⟩ (by simp) (by rfl)))
        subst d5
        have hc : W.cell? ⟨g17, 0, none⟩ = some (.slice a3 l.length d3) := hJ.part.swap.cell hun (by rfl)
        refine wpOp_of_list (by rfl) ?_
        go_wp2
        exact HK.out _ _ ⟨_, _, _, _, _, _, _, _, _, _, _, _, _, _, rfl, hJ.spec 6 (by decide) _ ((hJ.part.swap.stepL HOK2.out (show 6 < 14 by decide) rfl).swap)⟩
      · obtain rfl := Option.some.inj ho
        refine wpOp_of_list (by rfl) ?_
        go_wp2
        exact HK.out _ _ ⟨_, _, _, _, _, _, _, _, _, _, _, _, _, _, rfl, hJ.up HPART.out 7 (by decide) (show 7 < 14 by decide) rfl⟩
      · obtain rfl := Option.some.inj ho
        have d7 : x7 = (Value.agg #[.int .i64 b.lx, .int .i64 b.ly, .int .i64 b.lz, .int .i64 b.hx, .int .i64 b.hy, .int .i64 b.hz]) := hJ.val 7 (show 7 < 14 by decide) (by decide) (getD_upJ (hd ⟨7, .data⟩ (by simp) (by rfl)))
        subst d7
        refine wpOp_of_list (by rfl) ?_
        go_wp2
        exact HK.out _ _ ⟨_, _, _, _, _, _, _, _, _, _, _, _, _, _, rfl, hJ.spec 8 (by decide) _ ((hJ.part.swap.stepB HOK2.out (show 8 < 14 by decide) rfl rfl).swap)⟩
      · obtain rfl := Option.some.inj ho
        have hkl := (getD_upJ (hd ⟨6, .data⟩ (by simp) (by rfl)))
        have dl : x6 = .slice a3 l.length d3 := hJ.part.swap.r1.load hkl
        obtain ⟨gl, hl1, hl2, hl3⟩ := hJ.part.swap.r1.lit (getD_upJ (hd ⟨8, .data⟩ (by simp) (by rfl)))
        have hl4 : x8 = .slice (some ⟨gl, 0, none⟩) 1 1 := hl1
        have hrow := hJ.part.swap.r1.row0 hun
        subst dl hl4
        refine wpOp_of_list (by rfl) ?_
        refine app_own_w2 rfl _ _ 22 rfl 28 (.agg #[.int .i64 0, .int .i64 0, .int .i64 0, .int .i64 0, .int .i64 0, .int .i64 0]) 6 48 Try.underlying22 info_box' rfl (by decide) W1.heap.size (.slice a3 l.length d3) l.length _ _ rfl hrow gl 1 1 _ rfl (by rfl) hl3 (boxCells_one _) (by have := HLN.out; omega) (by decide) (by have := hJ.part.size; have := HSZ1.out.size; omega) ?_
        intro u' w' hown hg hw
        go_wp2
        exact HK.out _ _ ⟨_, _, _, _, _, _, _, _, _, _, _, _, _, _, rfl, hJ.spec 9 (by decide) _ ((hJ.part.swap.stepA HOK2.out (show 9 < 14 by decide) (by decide) hun hkl hown hg hw).swap)⟩
      · obtain rfl := Option.some.inj ho
        refine wpOp_of_list (by rfl) ?_
        go_wp2
        exact HK.out _ _ ⟨_, _, _, _, _, _, _, _, _, _, _, _, _, _, rfl, hJ.up HPART.out 10 (by decide) (show 10 < 14 by decide) rfl⟩
      · obtain rfl := Option.some.inj ho
        have d10 : x10 = .pointer (some ⟨g16, 1, none⟩) := hJ.val 10 (show 10 < 14 by decide) (by decide) (getD_upJ (hd ⟨10, .data⟩ (by simp) (by rfl)))
        subst d10
        have hka := (getD_upJ (hd ⟨4, .data⟩ (by simp) (by rfl)))
        have hb := hJ.part.r1.blk0 hun
        have qf : W.frozen? ⟨g16, 1, none⟩ = false := hb.frozen 1
        have qg : W.cell? ⟨g16, 1, none⟩ = some (.slice a2 m.length d2) := (hb.cell 1).trans rfl
        obtain ⟨au, cu, hx1, -, -, -⟩ := own_shape (hJ.part.r1.row1 hka)
        have hx2 : x4 = .slice au (m.length + 1) cu := hx1
        subst hx2
        refine wpOp_of_list (by rfl) ?_
        go_wp2
        exact HK.out _ _ ⟨_, _, _, _, _, _, _, _, _, _, _, _, _, _, rfl, hJ.spec0 11 (by decide) ((hJ.part.stepS HOK.out (by decide) hun hka rfl rfl))⟩
      · obtain rfl := Option.some.inj ho
        refine wpOp_of_list (by rfl) ?_
        go_wp2
        exact HK.out _ _ ⟨_, _, _, _, _, _, _, _, _, _, _, _, _, _, rfl, hJ.up HPART.out 12 (by decide) (show 12 < 14 by decide) rfl⟩
      · obtain rfl := Option.some.inj ho
        have d12 : x12 = .pointer (some ⟨g17, 0, none⟩) := hJ.val 12 (show 12 < 14 by decide) (by decide) (getD_upJ (hd ⟨12, .data⟩ (by simp) (by rfl)))
        subst d12
        have hka := (getD_upJ (hd ⟨9, .data⟩ (by simp) (by rfl)))
        have hb := hJ.part.swap.r1.blk0 hun
        have qf : W.frozen? ⟨g17, 0, none⟩ = false := hb.frozen 0
        have qg : W.cell? ⟨g17, 0, none⟩ = some (.slice a3 l.length d3) := (hb.cell 0).trans rfl
        obtain ⟨au, cu, hx1, -, -, -⟩ := own_shape (hJ.part.swap.r1.row1 hka)
        have hx2 : x9 = .slice au (l.length + 1) cu := hx1
        subst hx2
        refine wpOp_of_list (by rfl) ?_
        go_wp2
        exact HK.out _ _ ⟨_, _, _, _, _, _, _, _, _, _, _, _, _, _, rfl, hJ.spec0 13 (by decide) ((hJ.part.swap.stepS HOK2.out (by decide) hun hka rfl rfl).swap)⟩
    · intro vs L W hlen hJ hall
      obtain ⟨x0, vs0, rfl, hlen0⟩ := len_cons hlen
      obtain ⟨x1, vs1, rfl, hlen1⟩ := len_cons hlen0
      obtain ⟨x2, vs2, rfl, hlen2⟩ := len_cons hlen1
      obtain ⟨x3, vs3, rfl, hlen3⟩ := len_cons hlen2
      obtain ⟨x4, vs4, rfl, hlen4⟩ := len_cons hlen3
      obtain ⟨x5, vs5, rfl, hlen5⟩ := len_cons hlen4
      obtain ⟨x6, vs6, rfl, hlen6⟩ := len_cons hlen5
      obtain ⟨x7, vs7, rfl, hlen7⟩ := len_cons hlen6
      obtain ⟨x8, vs8, rfl, hlen8⟩ := len_cons hlen7
      obtain ⟨x9, vs9, rfl, hlen9⟩ := len_cons hlen8
      obtain ⟨x10, vs10, rfl, hlen10⟩ := len_cons hlen9
      obtain ⟨x11, vs11, rfl, hlen11⟩ := len_cons hlen10
      obtain ⟨x12, vs12, rfl, hlen12⟩ := len_cons hlen11
      obtain ⟨x13, vs13, rfl, hlen13⟩ := len_cons hlen12
      obtain rfl := len_nil hlen13
      clear hlen hlen0 hlen1 hlen2 hlen3 hlen4 hlen5 hlen6 hlen7 hlen8 hlen9 hlen10 hlen11 hlen12 hlen13
      have d0 : x0 = .pointer (some ⟨g16, 1, none⟩) := hJ.val 0 (show 0 < 14 by decide) (by decide) (hall 0 (of_decide_eq_true (by kernel_rfl)))
      have d2 : x2 = (Value.agg #[.int .i64 b.lx, .int .i64 b.ly, .int .i64 b.lz, .int .i64 b.hx, .int .i64 b.hy, .int .i64 b.hz]) := hJ.val 2 (show 2 < 14 by decide) (by decide) (hall 2 (of_decide_eq_true (by kernel_rfl)))
      have d5 : x5 = .pointer (some ⟨g17, 0, none⟩) := hJ.val 5 (show 5 < 14 by decide) (by decide) (hall 5 (of_decide_eq_true (by kernel_rfl)))
      have d7 : x7 = (Value.agg #[.int .i64 b.lx, .int .i64 b.ly, .int .i64 b.lz, .int .i64 b.hx, .int .i64 b.hy, .int .i64 b.hz]) := hJ.val 7 (show 7 < 14 by decide) (by decide) (hall 7 (of_decide_eq_true (by kernel_rfl)))
      have d10 : x10 = .pointer (some ⟨g16, 1, none⟩) := hJ.val 10 (show 10 < 14 by decide) (by decide) (hall 10 (of_decide_eq_true (by kernel_rfl)))
      have d12 : x12 = .pointer (some ⟨g17, 0, none⟩) := hJ.val 12 (show 12 < 14 by decide) (by decide) (hall 12 (of_decide_eq_true (by kernel_rfl)))
      subst d0 d2 d5 d7 d10 d12
      obtain ⟨o1, o2, o3, o4, o5, o6, hfar, hne, hge0, hge1, hbk0, hbk1⟩ := HR8.out
      have hD := hJ.part
      have r4 := hD.r1.row1 (hall 4 (of_decide_eq_true (by kernel_rfl)))
      have r9 := hD.r2.row1 (hall 9 (of_decide_eq_true (by kernel_rfl)))
      have b16 := hD.r1.blk1 (hall 11 (of_decide_eq_true (by kernel_rfl)))
      have b17 := hD.r2.blk1 (hall 13 (of_decide_eq_true (by kernel_rfl)))
      have hbase := hJ.part.base HSZ1.out.size HR8.out.2.2.2.2.2.2.2.2.1 HR8.out.2.2.2.2.2.2.2.2.2.1 (fun k e => (HR8.out.2.1.lt k e).1) (fun k e => (HR8.out.2.2.2.1.lt k e).1)
      have hk3 := HK1.out.1.move (W' := W) ⟨hbase.os.trans HSZ1.out.os, hbase.tape.trans HSZ1.out.tape, hbase.output.trans HSZ1.out.output, Nat.le_trans HSZ1.out.size hbase.size, fun k hk => (hbase.block k hk).trans (HSZ1.out.block k hk)⟩
      have hb14 := (HK2.out.2).of_block (hbase.block _ HK1.out.2.lt)
      have hu1 : Boxes W (.slice a1 l.length d1) l := Boxes.of_own (own_same o1 (fun k hk => hD.frame k (o1.lt k hk).2 (fun e => hbk0.ne_row o1 (by decide) (by rw [hk, e])) (fun e => hbk1.ne_row o1 (by decide) (by rw [hk, e])) (o3 k hk) (hfar k (.inl hk)).1))
      have ht2 : Boxes W (.slice a4 m.length d4) m := Boxes.of_own (own_same o5 (fun k hk => hD.frame k (o5.lt k hk).2 (fun e => hbk0.ne_row o5 (by decide) (by rw [hk, e])) (fun e => hbk1.ne_row o5 (by decide) (by rw [hk, e])) (fun e => (hfar k (.inr e)).2 hk) (fun e => o6 k e hk)))
      have ht1 : Boxes W x4 (m ++ [b]) := Boxes.of_own (by rw [boxCells_append, List.length_append]; exact r4)
      have hu2 : Boxes W x9 (l ++ [b]) := Boxes.of_own (by rw [boxCells_append, List.length_append]; exact r9)
      have hE : HoE l m b g14 g16 g17 (.slice a1 l.length d1) x4 x9 (.slice a4 m.length d4) W := ⟨hb14, b16, b17, hu1, ht1, hu2, ht2⟩
      obtain ⟨q4, c4, hx4, -, -, -⟩ := own_shape r4
      obtain ⟨q9, c9, hx9, -, -, -⟩ := own_shape r9
      have hx4' : x4 = .slice q4 (m.length + 1) c4 := hx4
      have hx9' : x9 = .slice q9 (l.length + 1) c9 := hx9
      have HKE := Lib.hid (And.intro hk3 hE)
      clear hJ hall hD o1 o2 o3 o4 o5 o6 hfar hne hge0 hge1 hbk0 hbk1 r4 r9 b16 b17 hbase hk3 hb14 hu1 ht2 ht1 hu2 hE hx4 hx9 hok hok2 HR8 HK1 HK2 HSZ1 HL1 HM1
      subst hx4' hx9'
      simp only [putAll_cons, putAll_nil, put_some, put_none, List.setIfInBounds_toArray, List.set_cons_succ, List.set_cons_zero]
      refine world_mask (fun W => HoK w (.slice ua l.length uc) (.slice ta m.length tc) g6 gx gy gz gs g11 b dx dy dz W ∧ HoE l m b g14 g16 g17 (.slice a1 l.length d1) (.slice q4 (m.length + 1) c4) (.slice q9 (l.length + 1) c9) (.slice a4 m.length d4) W) _ HKE.out ?_
      clear HKE
      rintro W3 hke
      have HKE := Lib.hid hke
      have HL3 := Lib.hid (HL.out.below hke.1.below)
      have HM3 := Lib.hid (HM.out.below hke.1.below)
      have k0 : W3.cell? ⟨g16, 0, none⟩ = some (.slice a1 l.length d1) := hke.2.b16.cell 0
      have k1 : W3.cell? ⟨g16, 1, none⟩ = some (.slice q4 (m.length + 1) c4) := hke.2.b16.cell 1
      have k2 : W3.cell? ⟨g17, 0, none⟩ = some (.slice q9 (l.length + 1) c9) := hke.2.b17.cell 0
      have k3 : W3.cell? ⟨g17, 1, none⟩ = some (.slice a4 m.length d4) := hke.2.b17.cell 1
      have c50 : W3.cell? ⟨w.heap.size, 0, none⟩ = some (.slice ua l.length uc) := hke.1.b5.cell 0
      have c51 : W3.cell? ⟨w.heap.size, 1, none⟩ = some (.slice ta m.length tc) := hke.1.b5.cell 1
      have hh0 : W3.cell? ⟨g14, 0, none⟩ = some (.int .i64 (hullX l).lx) := hke.2.b14.cell 0
      have hh1 : W3.cell? ⟨g14, 1, none⟩ = some (.int .i64 (hullX l).ly) := hke.2.b14.cell 1
      have hh2 : W3.cell? ⟨g14, 2, none⟩ = some (.int .i64 (hullX l).lz) := hke.2.b14.cell 2
      have hh3 : W3.cell? ⟨g14, 3, none⟩ = some (.int .i64 (hullX l).hx) := hke.2.b14.cell 3
      have hh4 : W3.cell? ⟨g14, 4, none⟩ = some (.int .i64 (hullX l).hy) := hke.2.b14.cell 4
      have hh5 : W3.cell? ⟨g14, 5, none⟩ = some (.int .i64 (hullX l).hz) := hke.2.b14.cell 5
      have hb0 : W3.cell? ⟨g6, 0, none⟩ = some (.int .i64 b.lx) := hke.1.b6.cell 0
      have hb1 : W3.cell? ⟨g6, 1, none⟩ = some (.int .i64 b.ly) := hke.1.b6.cell 1
      have hb2 : W3.cell? ⟨g6, 2, none⟩ = some (.int .i64 b.lz) := hke.1.b6.cell 2
      have hb3 : W3.cell? ⟨g6, 3, none⟩ = some (.int .i64 b.hx) := hke.1.b6.cell 3
      have hb4 : W3.cell? ⟨g6, 4, none⟩ = some (.int .i64 b.hy) := hke.1.b6.cell 4
      have hb5 : W3.cell? ⟨g6, 5, none⟩ = some (.int .i64 b.hz) := hke.1.b6.cell 5
      clear hke
      go_wp2_with fail
      go_at_call 18; refine (HV2.out _ _ _ (HKE.out.2.u1.below (by (repeat (first | exact grow_refl _ | refine grow_ext _ ?_ | refine grow_alloc _ ?_ | refine grow_drew ?_)))) (HKE.out.2.t1.below (by (repeat (first | exact grow_refl _ | refine grow_ext _ ?_ | refine grow_alloc _ ?_ | refine grow_drew ?_))))).mono ?_; rintro e w' ⟨rfl, y7, rfl⟩
      go_wp2_with fail
      go_at_call 18; refine (HV3.out _ _ _ (HKE.out.2.u2.below (by (repeat (first | exact grow_refl _ | refine grow_ext _ ?_ | refine grow_alloc _ ?_ | refine grow_drew ?_)))) (HKE.out.2.t2.below (by (repeat (first | exact grow_refl _ | refine grow_ext _ ?_ | refine grow_alloc _ ?_ | refine grow_drew ?_))))).mono ?_; rintro e w' ⟨rfl, y8, rfl⟩
      go_wp2_with fail
      go_at_call 26; refine (HGP.out _).mono ?_; rintro e w' ⟨rfl, y9, rfl⟩
      obtain ⟨p1, p2, p3, p4, p6, p7⟩ := HP.out
      have HP5' := HP5.out
      generalize gapI (hullX l) b = gp at *
      have f1 : decide (v < x) = false := by simp; omega
      have f2 : decide (x < v - s) = false := by simp; omega
      have f3 : decide (y < v) = false := by simp; omega
      have f4 : decide (v + s < y) = false := by simp; omega
      have w1 : IntKind.i64.wrap (v - s) = v - s := IntWalk.i64_in _ (by omega)
      have w2 : IntKind.i64.wrap (v + s) = v + s := IntWalk.i64_in _ (by omega)
      have hgx : (decide (0 ≤ gp) = true ∧ (x != v) = false) ∨ decide (0 ≤ gp) = false := by by_cases h : 0 ≤ gp; (left; exact ⟨by simpa using h, by rw [HP5' h]; simp⟩); (right; simpa using h)
      have HGX := Lib.hid hgx
      clear hgx HP5' p1 p2 p3 p4 p6 p7 HP5
      go_wp2_with fail
      go_at_call 27; refine (HSZ.out _).mono ?_; rintro e w' ⟨rfl, y10, rfl⟩
      go_wp2_with fail
      go_at_call 27; refine (HSZ.out _).mono ?_; rintro e w' ⟨rfl, y11, rfl⟩
      rcases HGX.out with ⟨g1, g2⟩ | g1
      all_goals
        clear HGX
        go_wp2_with fail
        go_at_call 25; refine (HRC.out _ _ _ (HL3.out.below (by (repeat (first | exact grow_refl _ | refine grow_ext _ ?_ | refine grow_alloc _ ?_ | refine grow_drew ?_)))) (HM3.out.below (by (repeat (first | exact grow_refl _ | refine grow_ext _ ?_ | refine grow_alloc _ ?_ | refine grow_drew ?_))))).mono ?_; rintro e w' ⟨u3, t3, rfl, o1, o2, o3, y12, rfl⟩
        obtain ⟨a5, d5, rfl, -, -, -⟩ := own_shape o1
        obtain ⟨a6, d6, rfl, -, -, -⟩ := own_shape o2
        have O := Lib.hid (And.intro o1 (And.intro o2 o3))
        clear o1 o2 o3
        go_upto_region 17 with fail
        obtain ⟨g24, hg24⟩ : ∃ g, g = (ext (ext (ext (ext (ext (ext W3 y7) y8) y9) y10) y11) y12).heap.size := ⟨_, rfl⟩
        have hs24 : W3.heap.size ≤ g24 := by rw [hg24]; simp only [size_ext]; omega
        simp only [size_ext] at hg24
        rw [← hg24]
        refine world_mask (fun W => MovS W3 W3.heap.size g24 (.slice a5 l.length d5) (.slice a6 m.length d6) l m W) _ ⟨by (repeat (first | exact grow_refl _ | refine grow_ext _ ?_ | refine grow_alloc _ ?_ | refine grow_drew ?_)), hs24, Nat.le_refl _, Blk.new' (by simp only [size_ext]; exact hg24) _ _, ((own_mono O.out.1 (by simp only [size_ext]; omega)).alloc _), ((own_mono O.out.2.1 (by simp only [size_ext]; omega)).alloc _), O.out.2.2⟩ ?_
        clear O hg24 hs24
        intro W4 hM0
        have HM0 := Lib.hid hM0
        have HK0 := Lib.hid (HKE.out.1)
        have j0 : W4.cell? ⟨g24, 0, none⟩ = some (.slice a5 l.length d5) := hM0.b.cell 0
        have j1 : W4.cell? ⟨g24, 1, none⟩ = some (.slice a6 m.length d6) := hM0.b.cell 1
        clear hM0 k0 k1 k2 k3 c50 c51 hh0 hh1 hh2 hh3 hh4 hh5 hb0 hb1 hb2 hb3 hb4 hb5 HKE
        go_wp2_with fail
        go_loopw [166, 26] (fun i _ wr => ∃ k : Nat, k ≤ l.length ∧ i = .int .i64 k ∧ MovS W3 W3.heap.size g24 (.slice a5 l.length d5) (.slice a6 m.length d6) (movT (movedX dx dy dz) l k) m wr) (fun i _ _ => l.length - (intOf i).toNat)
        case atStart => exact ⟨0, Nat.zero_le _, rfl, by rw [movT_zero]; exact HM0.out⟩
        case round =>
          clear j0 j1 HM0
          obtain ⟨wa, rfl⟩ : ∃ W : World, W = wr := ⟨_, rfl⟩
          obtain ⟨k, hk, rfl, hM⟩ := hrel
          have HMV := Lib.hid hM
          by_cases hlt : k < l.length
          · have q1 : (0 : Int) ≤ (k : Int) := by omega
            have q2 : (k : Int) < (l.length : Int) := by omega
            have hln := HLN.out.1
            obtain ⟨bb, off, rfl, hba⟩ := HU4.out k hlt
            have hvb := HTH.out k hlt
            obtain ⟨c, hc⟩ : ∃ c, l[k] = c := ⟨_, rfl⟩
            have hms := movT_set (movedX dx dy dz) l hlt
            rw [hc] at hba hvb hms
            have HMS := Lib.hid hms
            obtain ⟨y, ey⟩ := ext_of (HK0.out.below.trans (hM.below.mono HK0.out.below.size))
            have hba2 := hba.ext y
            rw [← ey] at hba2
            obtain ⟨i0, i1, i2, i3, i4, i5⟩ := hba2
            have hr := hM.r1
            rw [movT_length] at hr
            obtain ⟨qa, qc, hqe, -, -, hqn⟩ := own_shape hr
            obtain ⟨gu, hgu, -, -⟩ := hqn (by omega)
            cases hqe
            subst hgu
            obtain ⟨cur, hcur, hcs, -, -, hcn, -⟩ := own_blk hr
            have hv := valid_iff.1 hvb
            have k50 : wa.cell? ⟨w.heap.size, 0, none⟩ = some (.slice (some ⟨bb, off, none⟩) l.length uc) := (HK0.out.b5.below hM.below).cell 0
            have k24 : wa.cell? ⟨g24, 0, none⟩ = some (.slice (some ⟨gu, 0, none⟩) l.length d5) := hM.b.cell 0
            have ex : wa.cell? ⟨gx, 0, none⟩ = some (.int .i16 dx) := (HK0.out.bx.below hM.below).cell 0
            have eY : wa.cell? ⟨gy, 0, none⟩ = some (.int .i16 dy) := (HK0.out.bY.below hM.below).cell 0
            have ez : wa.cell? ⟨gz, 0, none⟩ = some (.int .i16 dz) := (HK0.out.bz.below hM.below).cell 0
            have HBY := Lib.hid (fun x y z hx hy hz xq => by17_c x y z dx dy dz hx hy hz HXYZ.out.1 HXYZ.out.2.1 HXYZ.out.2.2 gx gy gz (ext wa xq) (cell_ext_some ex xq) (cell_ext_some eY xq) (cell_ext_some ez xq))
            have HCU := Lib.hid (And.intro hcur (And.intro hcs hcn))
            clear hM hba ey hvb hms hr hqn hcur hcs hcn hc ex eY ez
            go_upto_region 20 with fail
            refine wp_region_tail 21 (by kernel_rfl) (by kernel_rfl) ?_; simp only [List.take_succ_cons, List.take_zero, List.drop_succ_cons, List.drop_zero]
            repeat (go_big_quiet_step ((go_at_call 28; exact Calls.quiet_ext (HBY.out _ _ _ (by omega) (by omega) (by omega) _))))
            refine wpQuiet_nil ?_; rintro _ ⟨xq, rfl⟩
            have hbx := HCU.out.1.ext xq
            obtain ⟨z0, hz0⟩ : ∃ z, cur[k * 6 + 0]? = some z := ⟨_, Array.getElem?_eq_getElem (by have h1 := HCU.out.2.1; have h2 := HCU.out.2.2; omega)⟩
            have qf0 : (ext wa xq).frozen? ⟨gu, k * 6, none⟩ = false := hbx.frozen _
            have qg0 : (ext wa xq).cell? ⟨gu, k * 6, none⟩ = some z0 := (hbx.cell _).trans hz0
            obtain ⟨z1, hz1⟩ : ∃ z, cur[k * 6 + 1]? = some z := ⟨_, Array.getElem?_eq_getElem (by have h1 := HCU.out.2.1; have h2 := HCU.out.2.2; omega)⟩
            have qf1 : (ext wa xq).frozen? ⟨gu, k * 6 + 1, none⟩ = false := hbx.frozen _
            have qg1 : (ext wa xq).cell? ⟨gu, k * 6 + 1, none⟩ = some z1 := (hbx.cell _).trans hz1
            obtain ⟨z2, hz2⟩ : ∃ z, cur[k * 6 + 2]? = some z := ⟨_, Array.getElem?_eq_getElem (by have h1 := HCU.out.2.1; have h2 := HCU.out.2.2; omega)⟩
            have qf2 : (ext wa xq).frozen? ⟨gu, k * 6 + 2, none⟩ = false := hbx.frozen _
            have qg2 : (ext wa xq).cell? ⟨gu, k * 6 + 2, none⟩ = some z2 := (hbx.cell _).trans hz2
            obtain ⟨z3, hz3⟩ : ∃ z, cur[k * 6 + 3]? = some z := ⟨_, Array.getElem?_eq_getElem (by have h1 := HCU.out.2.1; have h2 := HCU.out.2.2; omega)⟩
            have qf3 : (ext wa xq).frozen? ⟨gu, k * 6 + 3, none⟩ = false := hbx.frozen _
            have qg3 : (ext wa xq).cell? ⟨gu, k * 6 + 3, none⟩ = some z3 := (hbx.cell _).trans hz3
            obtain ⟨z4, hz4⟩ : ∃ z, cur[k * 6 + 4]? = some z := ⟨_, Array.getElem?_eq_getElem (by have h1 := HCU.out.2.1; have h2 := HCU.out.2.2; omega)⟩
            have qf4 : (ext wa xq).frozen? ⟨gu, k * 6 + 4, none⟩ = false := hbx.frozen _
            have qg4 : (ext wa xq).cell? ⟨gu, k * 6 + 4, none⟩ = some z4 := (hbx.cell _).trans hz4
            obtain ⟨z5, hz5⟩ : ∃ z, cur[k * 6 + 5]? = some z := ⟨_, Array.getElem?_eq_getElem (by have h1 := HCU.out.2.1; have h2 := HCU.out.2.2; omega)⟩
            have qf5 : (ext wa xq).frozen? ⟨gu, k * 6 + 5, none⟩ = false := hbx.frozen _
            have qg5 : (ext wa xq).cell? ⟨gu, k * 6 + 5, none⟩ = some z5 := (hbx.cell _).trans hz5
            have HBX2 := Lib.hid hbx
            clear hz0 hz1 hz2 hz3 hz4 hz5 hbx HBY
            go_wp2
            have hst := HMV.out.grow (below_ext _ xq)
            have hlen : l.length = (movT (movedX dx dy dz) l k).length := (movT_length _ _ _).symm
            rw [hlen] at hst
            have hs2 := hst.store1 (movedX dx dy dz c) (k := k) (by rw [movT_length]; exact hlt)
            rw [HMS.out, ← hlen] at hs2
            have HS2 := Lib.hid hs2
            clear hst hs2 hlen
            go_roundw
            case rel => exact ⟨k + 1, by omega, by go_num, HS2.out⟩
            case measure => simp [intOf]; omega
          · obtain rfl : k = l.length := by omega
            have hm1 : MovS W3 W3.heap.size g24 (.slice a5 l.length d5) (.slice a6 m.length d6) (l.map (movedX dx dy dz)) m wa := by have h := HMV.out; rw [movT_all] at h; exact h
            have HM1 := Lib.hid hm1
            have j2 : wa.cell? ⟨g24, 0, none⟩ = some (.slice a5 l.length d5) := hm1.b.cell 0
            have j3 : wa.cell? ⟨g24, 1, none⟩ = some (.slice a6 m.length d6) := hm1.b.cell 1
            clear hm1 hM hlt hk HMV
            go_wp2_with fail
            go_loopw [194, 27] (fun i _ wr => ∃ k : Nat, k ≤ m.length ∧ i = .int .i64 k ∧ MovS W3 W3.heap.size g24 (.slice a5 l.length d5) (.slice a6 m.length d6) (l.map (movedX dx dy dz)) (movT (movedX dx dy dz) m k) wr) (fun i _ _ => m.length - (intOf i).toNat)
            case atStart => exact ⟨0, Nat.zero_le _, rfl, by rw [movT_zero]; exact HM1.out⟩
            case round =>
              clear HM1 j2 j3
              obtain ⟨wa, rfl⟩ : ∃ W : World, W = wr := ⟨_, rfl⟩
              obtain ⟨k, hk, rfl, hM⟩ := hrel
              have HMV := Lib.hid hM
              by_cases hlt : k < m.length
              · have q1 : (0 : Int) ≤ (k : Int) := by omega
                have q2 : (k : Int) < (m.length : Int) := by omega
                have hln := HLN.out.2
                obtain ⟨bb, off, rfl, hba⟩ := HT4.out k hlt
                have hvb := HTM.out k hlt
                obtain ⟨c, hc⟩ : ∃ c, m[k] = c := ⟨_, rfl⟩
                have hms := movT_set (movedX dx dy dz) m hlt
                rw [hc] at hba hvb hms
                have HMS := Lib.hid hms
                obtain ⟨y, ey⟩ := ext_of (HK0.out.below.trans (hM.below.mono HK0.out.below.size))
                have hba2 := hba.ext y
                rw [← ey] at hba2
                obtain ⟨i0, i1, i2, i3, i4, i5⟩ := hba2
                have hr := hM.r2
                rw [movT_length] at hr
                obtain ⟨qa, qc, hqe, -, -, hqn⟩ := own_shape hr
                obtain ⟨gu, hgu, -, -⟩ := hqn (by omega)
                cases hqe
                subst hgu
                obtain ⟨cur, hcur, hcs, -, -, hcn, -⟩ := own_blk hr
                have hv := valid_iff.1 hvb
                have k50 : wa.cell? ⟨w.heap.size, 1, none⟩ = some (.slice (some ⟨bb, off, none⟩) m.length tc) := (HK0.out.b5.below hM.below).cell 1
                have k24 : wa.cell? ⟨g24, 1, none⟩ = some (.slice (some ⟨gu, 0, none⟩) m.length d6) := hM.b.cell 1
                have ex : wa.cell? ⟨gx, 0, none⟩ = some (.int .i16 dx) := (HK0.out.bx.below hM.below).cell 0
                have eY : wa.cell? ⟨gy, 0, none⟩ = some (.int .i16 dy) := (HK0.out.bY.below hM.below).cell 0
                have ez : wa.cell? ⟨gz, 0, none⟩ = some (.int .i16 dz) := (HK0.out.bz.below hM.below).cell 0
                have HBY := Lib.hid (fun x y z hx hy hz xq => by17_c x y z dx dy dz hx hy hz HXYZ.out.1 HXYZ.out.2.1 HXYZ.out.2.2 gx gy gz (ext wa xq) (cell_ext_some ex xq) (cell_ext_some eY xq) (cell_ext_some ez xq))
                have HCU := Lib.hid (And.intro hcur (And.intro hcs hcn))
                clear hM hba ey hvb hms hr hqn hcur hcs hcn hc ex eY ez
                go_upto_region 25 with fail
                refine wp_region_tail 21 (by kernel_rfl) (by kernel_rfl) ?_; simp only [List.take_succ_cons, List.take_zero, List.drop_succ_cons, List.drop_zero]
                repeat (go_big_quiet_step ((go_at_call 28; exact Calls.quiet_ext (HBY.out _ _ _ (by omega) (by omega) (by omega) _))))
                refine wpQuiet_nil ?_; rintro _ ⟨xq, rfl⟩
                have hbx := HCU.out.1.ext xq
                obtain ⟨z0, hz0⟩ : ∃ z, cur[k * 6 + 0]? = some z := ⟨_, Array.getElem?_eq_getElem (by have h1 := HCU.out.2.1; have h2 := HCU.out.2.2; omega)⟩
                have qf0 : (ext wa xq).frozen? ⟨gu, k * 6, none⟩ = false := hbx.frozen _
                have qg0 : (ext wa xq).cell? ⟨gu, k * 6, none⟩ = some z0 := (hbx.cell _).trans hz0
                obtain ⟨z1, hz1⟩ : ∃ z, cur[k * 6 + 1]? = some z := ⟨_, Array.getElem?_eq_getElem (by have h1 := HCU.out.2.1; have h2 := HCU.out.2.2; omega)⟩
                have qf1 : (ext wa xq).frozen? ⟨gu, k * 6 + 1, none⟩ = false := hbx.frozen _
                have qg1 : (ext wa xq).cell? ⟨gu, k * 6 + 1, none⟩ = some z1 := (hbx.cell _).trans hz1
                obtain ⟨z2, hz2⟩ : ∃ z, cur[k * 6 + 2]? = some z := ⟨_, Array.getElem?_eq_getElem (by have h1 := HCU.out.2.1; have h2 := HCU.out.2.2; omega)⟩
                have qf2 : (ext wa xq).frozen? ⟨gu, k * 6 + 2, none⟩ = false := hbx.frozen _
                have qg2 : (ext wa xq).cell? ⟨gu, k * 6 + 2, none⟩ = some z2 := (hbx.cell _).trans hz2
                obtain ⟨z3, hz3⟩ : ∃ z, cur[k * 6 + 3]? = some z := ⟨_, Array.getElem?_eq_getElem (by have h1 := HCU.out.2.1; have h2 := HCU.out.2.2; omega)⟩
                have qf3 : (ext wa xq).frozen? ⟨gu, k * 6 + 3, none⟩ = false := hbx.frozen _
                have qg3 : (ext wa xq).cell? ⟨gu, k * 6 + 3, none⟩ = some z3 := (hbx.cell _).trans hz3
                obtain ⟨z4, hz4⟩ : ∃ z, cur[k * 6 + 4]? = some z := ⟨_, Array.getElem?_eq_getElem (by have h1 := HCU.out.2.1; have h2 := HCU.out.2.2; omega)⟩
                have qf4 : (ext wa xq).frozen? ⟨gu, k * 6 + 4, none⟩ = false := hbx.frozen _
                have qg4 : (ext wa xq).cell? ⟨gu, k * 6 + 4, none⟩ = some z4 := (hbx.cell _).trans hz4
                obtain ⟨z5, hz5⟩ : ∃ z, cur[k * 6 + 5]? = some z := ⟨_, Array.getElem?_eq_getElem (by have h1 := HCU.out.2.1; have h2 := HCU.out.2.2; omega)⟩
                have qf5 : (ext wa xq).frozen? ⟨gu, k * 6 + 5, none⟩ = false := hbx.frozen _
                have qg5 : (ext wa xq).cell? ⟨gu, k * 6 + 5, none⟩ = some z5 := (hbx.cell _).trans hz5
                have HBX2 := Lib.hid hbx
                clear hz0 hz1 hz2 hz3 hz4 hz5 hbx HBY
                go_wp2
                have hst := HMV.out.grow (below_ext _ xq)
                have hlen : m.length = (movT (movedX dx dy dz) m k).length := (movT_length _ _ _).symm
                rw [hlen] at hst
                have hs2 := hst.store2 (movedX dx dy dz c) (k := k) (by rw [movT_length]; exact hlt)
                rw [HMS.out, ← hlen] at hs2
                have HS2 := Lib.hid hs2
                clear hst hs2 hlen
                go_roundw
                case rel => exact ⟨k + 1, by omega, by go_num, HS2.out⟩
                case measure => simp [intOf]; omega
              · obtain rfl : k = m.length := by omega
                have hu4 : Boxes wa (.slice a5 l.length d5) (l.map (movedX dx dy dz)) := Boxes.of_own (HMV.out.r1)
                have ht4 : Boxes wa (.slice a6 m.length d6) (m.map (movedX dx dy dz)) := by have h := HMV.out.r2; rw [movT_all] at h; exact Boxes.of_own h
                have j0 : wa.cell? ⟨g24, 0, none⟩ = some (.slice a5 l.length d5) := HMV.out.b.cell 0
                have j1 : wa.cell? ⟨g24, 1, none⟩ = some (.slice a6 m.length d6) := HMV.out.b.cell 1
                have HU5 := Lib.hid hu4
                have HT5 := Lib.hid ht4
                have HBW := Lib.hid (HK0.out.below.trans (HMV.out.below.mono HK0.out.below.size))
                clear hu4 ht4 hM hlt hk
                go_wp2_with fail
                go_at_call 18; refine (HV4.out _ _ _ (HU5.out.below (by (repeat (first | exact grow_refl _ | refine grow_ext _ ?_ | refine grow_alloc _ ?_ | refine grow_drew ?_)))) (HT5.out.below (by (repeat (first | exact grow_refl _ | refine grow_ext _ ?_ | refine grow_alloc _ ?_ | refine grow_drew ?_))))).mono ?_; rintro e w' ⟨rfl, y13, rfl⟩
                go_wp2
                go_ret
                exact Ret.of (HBW.out.trans (Below.mono (by (repeat (first | exact grow_refl _ | refine grow_ext _ ?_ | refine grow_alloc _ ?_ | refine grow_drew ?_))) HBW.out.size))

theorem lawSolidHoles_c (l m : List Bx) (u t : Value) (b : Bx) (dx dy dz : Int) (kx : -32768 ≤ dx ∧ dx ≤ 32767) (ky : -32768 ≤ dy ∧ dy ≤ 32767) (kz : -32768 ≤ dz ∧ dz ≤ 32767) (w : World) (hl : Boxes w u l) (hm : Boxes w t m) :
    Calls Try.prog 5 #[.agg #[u, t], (.agg #[.int .i64 b.lx, .int .i64 b.ly, .int .i64 b.lz, .int .i64 b.hx, .int .i64 b.hy, .int .i64 b.hz]), .int .i16 dx, .int .i16 dy, .int .i16 dz] w (Ret w (.bool true)) := by
  cases hr : rightB l m
  · exact holes_a l m u t b dx dy dz hr w hl hm
  cases hv : modestS l m
  · exact holes_b l m u t b dx dy dz hr hv w hl hm
  by_cases h3 : l.length ≤ 3
  case neg => exact holes_c l m u t b dx dy dz hr hv (by omega) w hl hm
  by_cases k3 : m.length ≤ 3
  case neg => exact holes_d l m u t b dx dy dz hr hv h3 (by omega) w hl hm
  cases he : solidB [b] []
  · exact holes_e l m u t b dx dy dz hr hv h3 k3 he w hl hm
  cases hf : modestS [b] []
  · exact holes_f l m u t b dx dy dz hr hv h3 k3 he hf w hl hm
  exact holes_ok l m u t b dx dy dz hr hv h3 k3 he hf kx ky kz w hl hm

end Go.Proofs.Ytafkibnkpcmmgaa

/- CoverMoves: the walk of the law. Printed by mklawcm.py. -/
import Derived.Test.YtdldbdffaffjoaaCovMv
import Derived.Test.YtdldbdffaffjoaaArr6
import Derived.RegionTactic
import Derived.Deep.DeepCutAuto
import Derived.Deep.RegionHeld3
import Derived.Test.YtdldbdffaffjoaaExtK
namespace Go.Proofs.Ytdldbdffaffjoaa
open Go.RowKit
set_option maxRecDepth 20000

attribute [local go_sem] eq_arr6

theorem fill6 {cs : Array Value} {a b c d e f : Value} (h : cs.size = (#[a, b, c, d, e, f] : Array Value).size) : (((((cs.setIfInBounds 0 a).setIfInBounds 1 b).setIfInBounds 2 c).setIfInBounds 3 d).setIfInBounds 4 e).setIfInBounds 5 f = #[a, b, c, d, e, f] := by
  rcases cs with ⟨l⟩
  have h' : l.length = 6 := h
  match l, h' with
  | [_, _, _, _, _, _], _ => rfl
/-- A row in a world in which its block lies as it lay. -/
theorem own_same {w w' : World} {base : Nat} {e : TypeId} {s : Nat} {v : Value} {n : Nat} {xs : List Value} (h : w.ownsRow base e s v n xs) (hs : ∀ b, v.ownBlock = some b → w'.heap[b]? = w.heap[b]?) : w'.ownsRow base e s v n xs := by
  refine ⟨h.1, ?_⟩
  rcases h.2 with h | ⟨g, cap, cur, rfl, h2, h3, h4⟩
  · exact .inl h
  · exact .inr ⟨g, cap, cur, rfl, h2, by rw [hs g rfl]; exact h3, h4⟩
/-- What the walk knows of the blocks that it made first. -/
structure MvK (w : World) (u t : Value) (g8 gx gy gz g13 : Nat) (q : Mb) (leg : Bx) (dx dy dz s0 s1 s2 s3 s4 s5 : Int) (W : World) : Prop where
  below : Below w.heap.size w W
  b6 : Blk W w.heap.size #[.string q.name, u, t, .int .i64 q.cover, .int .i64 q.agg, .int .i64 q.poker] 26
  b8 : Blk W g8 #[.int .i64 leg.lx, .int .i64 leg.ly, .int .i64 leg.lz, .int .i64 leg.hx, .int .i64 leg.hy, .int .i64 leg.hz] 30
  bx : Blk W gx #[.int .i16 dx] 38
  bY : Blk W gy #[.int .i16 dy] 38
  bz : Blk W gz #[.int .i16 dz] 38
  b13 : Blk W g13 #[.int .i64 s0, .int .i64 s1, .int .i64 s2, .int .i64 s3, .int .i64 s4, .int .i64 s5] 39
theorem MovL.grow {w W1 : World} {g g' : Nat} {c c' : Value → Array Value} {f f' : Bx → Bx} {l : List Bx} {k : Nat} {a a' : Value} {wr W : World} (h : MovL w W1 g g' c c' f f' l k a a' wr) (hb : Below wr.heap.size wr W) : MovL w W1 g g' c c' f f' l k a a' W := by
  have hg : wr.grownBy W none := ⟨hb.os, hb.tape, hb.output, hb.size, fun k hk _ => hb.block k hk⟩
  exact ⟨h.below.trans (hb.mono h.below.size), fun j h1 h2 h3 => by rw [hb.block j (Nat.lt_of_lt_of_le h1 h.size)]; exact h.kept j h1 h2 h3, Nat.le_trans h.size hb.size, h.ge, h.hg, h.hg', h.ne, h.b1.below hb, h.b2.below hb, h.r1.kept hg (by cases a.ownBlock <;> simp), h.r2.kept hg (by cases a'.ownBlock <;> simp), h.sep⟩
theorem MovL.old {w W1 : World} {g g' : Nat} {c c' : Value → Array Value} {f f' : Bx → Bx} {l : List Bx} {k : Nat} {a a' : Value} {wr W : World} (h : MovL w W1 g g' c c' f f' l k a a' wr) {r r' : Rw} {L : Array Bool} {vs : List Value}
    (hD : DApp 30 26 6 W1.heap.size wr r r' L vs W) (e1 : r.G = g ∧ r.a = a) (e2 : r'.G = g' ∧ r'.a = a') : ∀ j, j < w.heap.size → W.heap[j]? = w.heap[j]? := by
  intro j hj
  obtain ⟨g1, g3⟩ := e1
  obtain ⟨q1, q3⟩ := e2
  have hge := h.ge
  have hs := h.size
  have hg1 := h.hg.1
  have hg2 := h.hg'.1
  rw [hD.frame j (by omega) (by rw [g1]; omega) (by rw [q1]; omega) (by rw [g3]; intro e; have := (h.r1.lt j e).1; omega) (by rw [q3]; intro e; have := (h.r2.lt j e).1; omega)]
  exact h.below.block j hj
theorem MovL.size_le {w W1 : World} {g g' : Nat} {c c' : Value → Array Value} {f f' : Bx → Bx} {l : List Bx} {k : Nat} {a a' : Value} {wr W : World} (h : MovL w W1 g g' c c' f f' l k a a' wr) {r r' : Rw} {L : Array Bool} {vs : List Value}
    (hD : DApp 30 26 6 W1.heap.size wr r r' L vs W) : W1.heap.size ≤ W.heap.size := Nat.le_trans h.size hD.size

theorem rw_ok {kL kB kA kS kL' kB' kA' kS' G off G' off' n n' : Nat} {c c' : Array Value} {a a' : Value} {xs news xs' news' : List Value} (h : ([kL, kB, kA, kS, kL', kB', kA', kS'] : List Nat).Nodup) : Rw.ok ⟨kL, kB, kA, kS, G, off, c, a, n, xs, news⟩ ⟨kL', kB', kA', kS', G', off', c', a', n', xs', news'⟩ := by
  simp only [List.nodup_cons, List.mem_cons, List.not_mem_nil, or_false, not_or] at h
  obtain ⟨⟨a1, a2, a3, a4, a5, a6, a7⟩, ⟨b2, b3, b4, b5, b6, b7⟩, ⟨c3, c4, c5, c6, c7⟩, ⟨d4, d5, d6, d7⟩, -⟩ := h
  refine ⟨⟨a1, a2, a3, b2, b3, c3⟩, fun k hk => ?_⟩
  simp only [Rw.ks, List.mem_cons, List.not_mem_nil, or_false] at hk ⊢
  rcases hk with rfl | rfl | rfl | rfl <;> omega
theorem rep_false {n k : Nat} (h : k < n) : (Array.replicate n false).getD k true = false := by simp [Array.getD, h]
theorem MvK.move {w : World} {u t : Value} {g8 gx gy gz g13 : Nat} {q : Mb} {leg : Bx} {dx dy dz s0 s1 s2 s3 s4 s5 : Int} {W W' : World} (h : MvK w u t g8 gx gy gz g13 q leg dx dy dz s0 s1 s2 s3 s4 s5 W) (hb : Below W.heap.size W W') : MvK w u t g8 gx gy gz g13 q leg dx dy dz s0 s1 s2 s3 s4 s5 W' :=
  ⟨h.below.trans (hb.mono h.below.size), h.b6.below hb, h.b8.below hb, h.bx.below hb, h.bY.below hb, h.bz.below hb, h.b13.below hb⟩
/-- What the walk knows of the two members. -/
structure MvE (q : Mb) (mv : Bx → Bx) (g g' : Nat) (u t u' t' : Value) (W : World) : Prop where
  b1 : Blk W g #[.string q.name, u, t, .int .i64 q.cover, .int .i64 q.agg, .int .i64 q.poker] 26
  b2 : Blk W g' #[.string q.name, u', t', .int .i64 q.cover, .int .i64 q.agg, .int .i64 q.poker] 26
  u1 : Boxes W u (q.l.map mv)
  t1 : Boxes W t (q.m.map mv)
  u2 : Boxes W u' (q.l.map turnX)
  t2 : Boxes W t' (q.m.map turnX)
theorem MvE.move {q : Mb} {mv : Bx → Bx} {g g' : Nat} {u t u' t' : Value} {W W' : World} (h : MvE q mv g g' u t u' t' W) (hb : Below W.heap.size W W') : MvE q mv g g' u t u' t' W' :=
  ⟨h.b1.below hb, h.b2.below hb, h.u1.below hb, h.t1.below hb, h.u2.below hb, h.t2.below hb⟩
theorem MovL.boxes {w W1 : World} {g g' : Nat} {c c' : Value → Array Value} {f f' : Bx → Bx} {l : List Bx} {k : Nat} {a a' : Value} {wr : World} (h : MovL w W1 g g' c c' f f' l k a a' wr) {base : Nat} {v : Value} {n : Nat} {fl : List Bx} (hr : W1.ownsRow base 30 6 v n (boxCells fl)) (hn : n = fl.length) (h1 : some g ≠ v.ownBlock) (h2 : some g' ≠ v.ownBlock) : Boxes wr v fl := by
  subst hn
  exact Boxes.of_own (own_same hr (fun b hb => h.kept b (hr.lt b hb).2 (fun e => h1 (by rw [hb, e])) (fun e => h2 (by rw [hb, e]))))
theorem MovL.row1 {w W1 : World} {g g' : Nat} {c c' : Value → Array Value} {f f' : Bx → Bx} {l : List Bx} {a a' : Value} {wr : World} (h : MovL w W1 g g' c c' f f' l l.length a a' wr) : Boxes wr a (l.map f) := by
  have := h.r1
  rw [List.take_length] at this
  exact Boxes.of_own (by rw [List.length_map]; exact this)
theorem MovL.row2 {w W1 : World} {g g' : Nat} {c c' : Value → Array Value} {f f' : Bx → Bx} {l : List Bx} {a a' : Value} {wr : World} (h : MovL w W1 g g' c c' f f' l l.length a a' wr) : Boxes wr a' (l.map f') := by
  have := h.r2
  rw [List.take_length] at this
  exact Boxes.of_own (by rw [List.length_map]; exact this)

theorem sidesMoved_c (q : Mb) (d : Int) (leg : Bx) (dx dy dz : Int) (h0 : givenI q d leg = 0) : ∃ t0 t1 t2 t3 t4 t5 F : Int,
    (∀ (u t : Value) (w : World), Boxes w u (q.l.map (movedX dx dy dz)) → Boxes w t (q.m.map (movedX dx dy dz)) → q.name.size ≤ 9223372036854775807 → Calls Try.prog 9 #[.agg #[.string q.name, u, t, .int .i64 q.cover, .int .i64 q.agg, .int .i64 q.poker], .int .i64 d, (.agg #[.int .i64 (movedX dx dy dz leg).lx, .int .i64 (movedX dx dy dz leg).ly, .int .i64 (movedX dx dy dz leg).lz, .int .i64 (movedX dx dy dz leg).hx, .int .i64 (movedX dx dy dz leg).hy, .int .i64 (movedX dx dy dz leg).hz])] w (Ret w (.tuple #[.agg #[.int .i64 t0, .int .i64 t1, .int .i64 t2, .int .i64 t3, .int .i64 t4, .int .i64 t5], .int .i64 F]))) ∧
    (F = 1 ∨ F = 0 ∧ t0 = sideC q.l q.m (coreX d leg) 0 ∧ t1 = sideC q.l q.m (coreX d leg) 1 ∧ t2 = sideC q.l q.m (coreX d leg) 2 ∧ t3 = sideC q.l q.m (coreX d leg) 3 ∧ t4 = sideC q.l q.m (coreX d leg) 4 ∧ t5 = sideC q.l q.m (coreX d leg) 5) := by
  have hs := fun u t i => show givenI (mapQ (movedX dx dy dz) q u t) d (movedX dx dy dz leg) = 0 → sideI (mapQ (movedX dx dy dz) q u t) d (movedX dx dy dz leg) i = sideC q.l q.m (coreX d leg) i from fun h => by
    unfold sideI
    rw [if_pos h]
    exact sides_moved dx dy dz h0 i
  refine ⟨sideI (mapQ (movedX dx dy dz) q undef undef) d (movedX dx dy dz leg) 0, sideI (mapQ (movedX dx dy dz) q undef undef) d (movedX dx dy dz leg) 1, sideI (mapQ (movedX dx dy dz) q undef undef) d (movedX dx dy dz leg) 2, sideI (mapQ (movedX dx dy dz) q undef undef) d (movedX dx dy dz leg) 3, sideI (mapQ (movedX dx dy dz) q undef undef) d (movedX dx dy dz leg) 4, sideI (mapQ (movedX dx dy dz) q undef undef) d (movedX dx dy dz leg) 5, givenI (mapQ (movedX dx dy dz) q undef undef) d (movedX dx dy dz leg), fun u t w hu ht hn => Sides_c (mapQ (movedX dx dy dz) q u t) d (movedX dx dy dz leg) w ⟨hn, hu, ht⟩, ?_⟩
  have hs := hs undef undef
  rcases (given_moved q d leg dx dy dz undef undef h0).symm with h | h
  · left; exact h
  · right
    exact ⟨h, hs 0 h, hs 1 h, hs 2 h, hs 3 h, hs 4 h, hs 5 h⟩
theorem sidesTurned_c (q : Mb) (d : Int) (leg : Bx) (h0 : givenI q d leg = 0) (u t : Value) (w : World) (hu : Boxes w u (q.l.map turnX)) (ht : Boxes w t (q.m.map turnX)) (hn : q.name.size ≤ 9223372036854775807) :
    Calls Try.prog 9 #[.agg #[.string q.name, u, t, .int .i64 q.cover, .int .i64 q.agg, .int .i64 q.poker], .int .i64 d, (.agg #[.int .i64 (turnX leg).lx, .int .i64 (turnX leg).ly, .int .i64 (turnX leg).lz, .int .i64 (turnX leg).hx, .int .i64 (turnX leg).hy, .int .i64 (turnX leg).hz])] w (Ret w (.tuple #[.agg #[.int .i64 (sideC q.l q.m (coreX d leg) 1), .int .i64 (sideC q.l q.m (coreX d leg) 0), .int .i64 (sideC q.l q.m (coreX d leg) 2), .int .i64 (sideC q.l q.m (coreX d leg) 3), .int .i64 (sideC q.l q.m (coreX d leg) 4), .int .i64 (sideC q.l q.m (coreX d leg) 5)], .int .i64 0])) :=
  Sides_ok (mapQ turnX q u t) d (turnX leg) _ _ _ _ _ _ (given_turned u t h0) (sides_turned h0 0) (sides_turned h0 1) (sides_turned h0 2) (sides_turned h0 3) (sides_turned h0 4) (sides_turned h0 5) w ⟨hn, hu, ht⟩

set_option maxRecDepth 100000 in
set_option maxHeartbeats 16000000 in
theorem lawMoves_ok (q : Mb) (d : Int) (leg : Bx) (dx dy dz : Int) (hx : -32768 ≤ dx ∧ dx ≤ 32767) (hy : -32768 ≤ dy ∧ dy ≤ 32767) (hz : -32768 ≤ dz ∧ dz ≤ 32767) (hf : fewB q = true) (h0 : givenI q d leg = 0) (w : World) (hq : MbAt w q) :
    Calls Try.prog 4 #[(.agg #[.string q.name, q.u, q.t, .int .i64 q.cover, .int .i64 q.agg, .int .i64 q.poker]), .int .i64 d, (.agg #[.int .i64 leg.lx, .int .i64 leg.ly, .int .i64 leg.lz, .int .i64 leg.hx, .int .i64 leg.hy, .int .i64 leg.hz]), .int .i16 dx, .int .i16 dy, .int .i16 dz] w (Ret w (.bool true)) := by
  have HQ := Lib.hid hq
  obtain ⟨h1, h2, h3⟩ := given_zero.1 h0
  have hs := mb_solid h1
  obtain ⟨n0, n1, n2, n3, n4, n5, F, hsm, hF⟩ := sidesMoved_c q d leg dx dy dz h0
  have HSM := Lib.hid hsm
  have HFF := Lib.hid hF
  have HST := Lib.hid (sidesTurned_c q d leg h0)
  have HV := Lib.hid (fun (k : Nat) (h : k < q.l.length) => (thick_iff.1 (List.all_eq_true.1 (solid_iff.1 hs).2.2.1 _ (List.getElem_mem h))).1)
  have HVM := Lib.hid (fun (k : Nat) (h : k < q.m.length) => (thick_iff.1 (List.all_eq_true.1 (solid_iff.1 hs).2.2.2 _ (List.getElem_mem h))).1)
  have HLN := Lib.hid (show q.l.length ≤ 20 ∧ q.m.length ≤ 20 from ⟨(solid_iff.1 hs).1.2, (solid_iff.1 hs).2.1⟩)
  have HVG := Lib.hid h2
  have HN := Lib.hid hq.name
  have HX := Lib.hid (And.intro hx (And.intro hy hz))
  clear hsm hF hx hy hz
  obtain ⟨ua, uc, eu, -, hcu, hu4⟩ := hq.boxes.shape
  obtain ⟨ta, tc, et, -, hct, ht4⟩ := hq.holes.shape
  have HU4 := Lib.hid hu4
  have HT4 := Lib.hid ht4
  clear hu4 ht4
  have hsc := fun w hq => Sides_ok q d leg _ _ _ _ _ _ h0 rfl rfl rfl rfl rfl rfl w hq
  have hfw := fun w hq => few_v q _ hf w hq
  simp only [eu, et] at hsc hfw ⊢
  have HS := Lib.hid hsc
  have HFW := Lib.hid hfw
  clear hsc hfw
  generalize sideC q.l q.m (coreX d leg) 0 = s0 at *
  generalize sideC q.l q.m (coreX d leg) 1 = s1 at *
  generalize sideC q.l q.m (coreX d leg) 2 = s2 at *
  generalize sideC q.l q.m (coreX d leg) 3 = s3 at *
  generalize sideC q.l q.m (coreX d leg) 4 = s4 at *
  generalize sideC q.l q.m (coreX d leg) 5 = s5 at *
  have EU := Lib.hid eu
  have ET := Lib.hid et
  clear hq hf h0 hs eu et h1 h2 h3
  go_enter Try.func4, Try.ntmps4
  go_wp2_with fail
  go_at_call 6; refine (awake18_c _).mono ?_; rintro e w' ⟨rfl, x0, rfl⟩
  go_wp2_with fail
  go_at_call 7; refine (HFW.out _ (HQ.out.below (by (repeat (first | exact grow_refl _ | refine grow_ext _ ?_ | refine grow_alloc _ ?_ | refine grow_drew ?_))))).mono ?_; rintro e w' ⟨rfl, x1, rfl⟩
  go_wp2_with fail
  go_at_call 9; refine (HS.out _ (HQ.out.below (by (repeat (first | exact grow_refl _ | refine grow_ext _ ?_ | refine grow_alloc _ ?_ | refine grow_drew ?_))))).mono ?_; rintro e w' ⟨rfl, x2, rfl⟩
  go_upto_region 10 with fail
  refine world_mask (fun W => MvK w (.slice ua q.l.length uc) (.slice ta q.m.length tc) (w.heap.size + 1) (w.heap.size + 1 + 1) (w.heap.size + 1 + 1 + 1) (w.heap.size + 1 + 1 + 1 + 1) (w.heap.size + 1 + 1 + 1 + 1 + 1 + x0.heap.size + x1.heap.size + x2.heap.size) q leg dx dy dz s0 s1 s2 s3 s4 s5 W) _ ?_ ?_
  · exact ⟨by (repeat (first | exact grow_refl _ | refine grow_ext _ ?_ | refine grow_alloc _ ?_ | refine grow_drew ?_)), ((((((((Blk.new _ _ _).alloc _).alloc _).alloc _).alloc _).ext _).ext _).ext _).alloc _, (((((((Blk.new' (by simp only [World.size_alloc]) _ _).alloc _).alloc _).alloc _).ext _).ext _).ext _).alloc _, ((((((Blk.new' (by simp only [World.size_alloc]) _ _).alloc _).alloc _).ext _).ext _).ext _).alloc _, (((((Blk.new' (by simp only [World.size_alloc]) _ _).alloc _).ext _).ext _).ext _).alloc _, ((((Blk.new' (by simp only [World.size_alloc]) _ _).ext _).ext _).ext _).alloc _, Blk.new' (by simp only [World.size_alloc, size_ext]) _ _⟩
  intro W0 hK
  generalize w.heap.size + 1 + 1 + 1 + 1 + 1 + x0.heap.size + x1.heap.size + x2.heap.size = g13 at *
  generalize w.heap.size + 1 + 1 + 1 + 1 = gz at *
  generalize w.heap.size + 1 + 1 + 1 = gy at *
  generalize w.heap.size + 1 + 1 = gx at *
  generalize w.heap.size + 1 = g8 at *
  have HMK := Lib.hid hK
  clear hK
  have hok : mkOk [2, 4, 3, 5] [⟨2, 4, 26, #[.string q.name, .slice ua q.l.length uc, .slice ta q.m.length tc, .int .i64 q.cover, .int .i64 q.agg, .int .i64 q.poker]⟩, ⟨3, 5, 26, #[.string q.name, .slice ua q.l.length uc, .slice ta q.m.length tc, .int .i64 q.cover, .int .i64 q.agg, .int .i64 q.poker]⟩] := mkOk_two (by decide)
  refine wp_region_M [(.agg #[.string q.name, .slice ua q.l.length uc, .slice ta q.m.length tc, .int .i64 q.cover, .int .i64 q.agg, .int .i64 q.poker]), (.agg #[.string q.name, .slice ua q.l.length uc, .slice ta q.m.length tc, .int .i64 q.cover, .int .i64 q.agg, .int .i64 q.poker]), undef, undef, undef, undef] [2, 4, 3, 5] [⟨2, 4, 26, #[.string q.name, .slice ua q.l.length uc, .slice ta q.m.length tc, .int .i64 q.cover, .int .i64 q.agg, .int .i64 q.poker]⟩, ⟨3, 5, 26, #[.string q.name, .slice ua q.l.length uc, .slice ta q.m.length tc, .int .i64 q.cover, .int .i64 q.agg, .int .i64 q.poker]⟩] (by kernel_rfl) (by kernel_rfl) ?_ ?_ ?_
  · intro b hb
    simp only [List.mem_cons, List.not_mem_nil, or_false] at hb
    rcases hb with rfl | rfl
    all_goals exact ⟨of_decide_eq_true (by kernel_rfl), of_decide_eq_true (by kernel_rfl)⟩
  · intro L vs W i hlen hJ hi
    obtain ⟨x0, vs0, rfl, hlen0⟩ := len_cons hlen
    obtain ⟨x1, vs1, rfl, hlen1⟩ := len_cons hlen0
    obtain ⟨x2, vs2, rfl, hlen2⟩ := len_cons hlen1
    obtain ⟨x3, vs3, rfl, hlen3⟩ := len_cons hlen2
    obtain ⟨x4, vs4, rfl, hlen4⟩ := len_cons hlen3
    obtain ⟨x5, vs5, rfl, hlen5⟩ := len_cons hlen4
    obtain rfl := len_nil hlen5
    clear hlen hlen0 hlen1 hlen2 hlen3 hlen4 hlen5
    obtain ⟨hun, o, ho, hd⟩ := mem_ready.1 hi
    have hin : i < 6 := by have := (Array.getElem?_eq_some_iff.1 ho).1; simpa using this
    refine wpOp_free (B := fun a' W' => ∃ x0 x1 x2 x3 x4 x5, a' = putAll _ [x0, x1, x2, x3, x4, x5] _ ∧ InvM _ _ _ _ [x0, x1, x2, x3, x4, x5] (L.setIfInBounds i true) W') (fun _ _ h => by obtain ⟨x0, x1, x2, x3, x4, x5, h1, h2⟩ := h; exact ⟨[x0, x1, x2, x3, x4, x5], rfl, h1, h2⟩) ?_
    intro K HK
    simp only [putAll_cons, putAll_nil, put_some, put_none, List.setIfInBounds_toArray, List.set_cons_succ, List.set_cons_zero] at HK ⊢
    have HOK := Lib.hid hok
    clear hok
    have hb6 := HMK.out.b6.below (hJ.below)
    have c0 : W.cell? ⟨w.heap.size, 0, none⟩ = some (.string q.name) := hb6.cell 0
    have c1 : W.cell? ⟨w.heap.size, 1, none⟩ = some (.slice ua q.l.length uc) := hb6.cell 1
    have c2 : W.cell? ⟨w.heap.size, 2, none⟩ = some (.slice ta q.m.length tc) := hb6.cell 2
    have c3 : W.cell? ⟨w.heap.size, 3, none⟩ = some (.int .i64 q.cover) := hb6.cell 3
    have c4 : W.cell? ⟨w.heap.size, 4, none⟩ = some (.int .i64 q.agg) := hb6.cell 4
    have c5 : W.cell? ⟨w.heap.size, 5, none⟩ = some (.int .i64 q.poker) := hb6.cell 5
    rcases (show i = 0 ∨ i = 1 ∨ i = 2 ∨ i = 3 ∨ i = 4 ∨ i = 5 by omega) with rfl | rfl | rfl | rfl | rfl | rfl
    · obtain rfl := Option.some.inj ho
      refine wpOp_of_list (by rfl) ?_
      go_wp2
      exact HK.out _ _ ⟨_, _, _, _, _, _, rfl, hJ.up HOK.out 0 (by decide) (show 0 < 6 by decide) rfl⟩
    · obtain rfl := Option.some.inj ho
      refine wpOp_of_list (by rfl) ?_
      go_wp2
      exact HK.out _ _ ⟨_, _, _, _, _, _, rfl, hJ.up HOK.out 1 (by decide) (show 1 < 6 by decide) rfl⟩
    · obtain rfl := Option.some.inj ho
      refine wpOp_of_list (by rfl) ?_
      go_wp2
      exact HK.out _ _ ⟨_, _, _, _, _, _, rfl, hJ.make HOK.out ⟨2, 4, 26, #[.string q.name, .slice ua q.l.length uc, .slice ta q.m.length tc, .int .i64 q.cover, .int .i64 q.agg, .int .i64 q.poker]⟩ (by simp) (show 2 < 6 by decide) hun #[.string ⟨#[]⟩, .slice none 0 0, .slice none 0 0, .int .i64 0, .int .i64 0, .int .i64 0] rfl rfl⟩
    · obtain rfl := Option.some.inj ho
      refine wpOp_of_list (by rfl) ?_
      go_wp2
      exact HK.out _ _ ⟨_, _, _, _, _, _, rfl, hJ.make HOK.out ⟨3, 5, 26, #[.string q.name, .slice ua q.l.length uc, .slice ta q.m.length tc, .int .i64 q.cover, .int .i64 q.agg, .int .i64 q.poker]⟩ (by simp) (show 3 < 6 by decide) hun #[.string ⟨#[]⟩, .slice none 0 0, .slice none 0 0, .int .i64 0, .int .i64 0, .int .i64 0] rfl rfl⟩
    · obtain rfl := Option.some.inj ho
      have d0 : x0 = (.agg #[.string q.name, .slice ua q.l.length uc, .slice ta q.m.length tc, .int .i64 q.cover, .int .i64 q.agg, .int .i64 q.poker]) := hJ.val 0 (show 0 < 6 by decide) (by decide) (getD_upJ (hd ⟨0, .data⟩ (by simp) (by rfl)))
      have hka := getD_upJ (hd ⟨2, .data⟩ (by simp) (by rfl))
      obtain ⟨gq, hs, hg, cs, hcs, hb, -⟩ := hJ.made ⟨2, 4, 26, #[.string q.name, .slice ua q.l.length uc, .slice ta q.m.length tc, .int .i64 q.cover, .int .i64 q.agg, .int .i64 q.poker]⟩ (by simp) hka
      have hs2 : x2 = .pointer (some ⟨gq, 0, none⟩) := hs
      obtain ⟨qa0, qh0⟩ : ∃ a, cs[0]? = some a := ⟨_, Array.getElem?_eq_getElem (by rw [hcs]; exact (show 0 < 6 by decide))⟩
      obtain ⟨qa1, qh1⟩ : ∃ a, cs[1]? = some a := ⟨_, Array.getElem?_eq_getElem (by rw [hcs]; exact (show 1 < 6 by decide))⟩
      obtain ⟨qa2, qh2⟩ : ∃ a, cs[2]? = some a := ⟨_, Array.getElem?_eq_getElem (by rw [hcs]; exact (show 2 < 6 by decide))⟩
      obtain ⟨qa3, qh3⟩ : ∃ a, cs[3]? = some a := ⟨_, Array.getElem?_eq_getElem (by rw [hcs]; exact (show 3 < 6 by decide))⟩
      obtain ⟨qa4, qh4⟩ : ∃ a, cs[4]? = some a := ⟨_, Array.getElem?_eq_getElem (by rw [hcs]; exact (show 4 < 6 by decide))⟩
      obtain ⟨qa5, qh5⟩ : ∃ a, cs[5]? = some a := ⟨_, Array.getElem?_eq_getElem (by rw [hcs]; exact (show 5 < 6 by decide))⟩
      have qf0 : W.frozen? ⟨gq, 0, none⟩ = false := hb.frozen 0
      have qg0 : W.cell? ⟨gq, 0, none⟩ = some qa0 := (hb.cell 0).trans qh0
      have qf1 : W.frozen? ⟨gq, 1, none⟩ = false := hb.frozen 1
      have qg1 : W.cell? ⟨gq, 1, none⟩ = some qa1 := (hb.cell 1).trans qh1
      have qf2 : W.frozen? ⟨gq, 2, none⟩ = false := hb.frozen 2
      have qg2 : W.cell? ⟨gq, 2, none⟩ = some qa2 := (hb.cell 2).trans qh2
      have qf3 : W.frozen? ⟨gq, 3, none⟩ = false := hb.frozen 3
      have qg3 : W.cell? ⟨gq, 3, none⟩ = some qa3 := (hb.cell 3).trans qh3
      have qf4 : W.frozen? ⟨gq, 4, none⟩ = false := hb.frozen 4
      have qg4 : W.cell? ⟨gq, 4, none⟩ = some qa4 := (hb.cell 4).trans qh4
      have qf5 : W.frozen? ⟨gq, 5, none⟩ = false := hb.frozen 5
      have qg5 : W.cell? ⟨gq, 5, none⟩ = some qa5 := (hb.cell 5).trans qh5
      subst d0
      subst hs2
      refine wpOp_of_list (by rfl) ?_
      go_wp2
      refine HK.out _ _ ⟨_, _, _, _, _, _, rfl, hJ.fill HOK.out ⟨2, 4, 26, #[.string q.name, .slice ua q.l.length uc, .slice ta q.m.length tc, .int .i64 q.cover, .int .i64 q.agg, .int .i64 q.poker]⟩ (by simp) hka hs hg ((((((hJ.below.setCell hg _).setCell hg _).setCell hg _).setCell hg _).setCell hg _).setCell hg _) (fun k hk => by rw [Below.heap_setCell _ _ _ _ hk, Below.heap_setCell _ _ _ _ hk, Below.heap_setCell _ _ _ _ hk, Below.heap_setCell _ _ _ _ hk, Below.heap_setCell _ _ _ _ hk, Below.heap_setCell _ _ _ _ hk]) ?_⟩
      show Blk _ gq #[.string q.name, .slice ua q.l.length uc, .slice ta q.m.length tc, .int .i64 q.cover, .int .i64 q.agg, .int .i64 q.poker] _
      rw [← fill6 (a := .string q.name) (b := .slice ua q.l.length uc) (c := .slice ta q.m.length tc) (d := .int .i64 q.cover) (e := .int .i64 q.agg) (f := .int .i64 q.poker) hcs]
      exact ((((((hb.set 0 _).set 1 _).set 2 _).set 3 _).set 4 _).set 5 _)
    · obtain rfl := Option.some.inj ho
      have d1 : x1 = (.agg #[.string q.name, .slice ua q.l.length uc, .slice ta q.m.length tc, .int .i64 q.cover, .int .i64 q.agg, .int .i64 q.poker]) := hJ.val 1 (show 1 < 6 by decide) (by decide) (getD_upJ (hd ⟨1, .data⟩ (by simp) (by rfl)))
      have hka := getD_upJ (hd ⟨3, .data⟩ (by simp) (by rfl))
      obtain ⟨gq, hs, hg, cs, hcs, hb, -⟩ := hJ.made ⟨3, 5, 26, #[.string q.name, .slice ua q.l.length uc, .slice ta q.m.length tc, .int .i64 q.cover, .int .i64 q.agg, .int .i64 q.poker]⟩ (by simp) hka
      have hs2 : x3 = .pointer (some ⟨gq, 0, none⟩) := hs
      obtain ⟨qa0, qh0⟩ : ∃ a, cs[0]? = some a := ⟨_, Array.getElem?_eq_getElem (by rw [hcs]; exact (show 0 < 6 by decide))⟩
      obtain ⟨qa1, qh1⟩ : ∃ a, cs[1]? = some a := ⟨_, Array.getElem?_eq_getElem (by rw [hcs]; exact (show 1 < 6 by decide))⟩
      obtain ⟨qa2, qh2⟩ : ∃ a, cs[2]? = some a := ⟨_, Array.getElem?_eq_getElem (by rw [hcs]; exact (show 2 < 6 by decide))⟩
      obtain ⟨qa3, qh3⟩ : ∃ a, cs[3]? = some a := ⟨_, Array.getElem?_eq_getElem (by rw [hcs]; exact (show 3 < 6 by decide))⟩
      obtain ⟨qa4, qh4⟩ : ∃ a, cs[4]? = some a := ⟨_, Array.getElem?_eq_getElem (by rw [hcs]; exact (show 4 < 6 by decide))⟩
      obtain ⟨qa5, qh5⟩ : ∃ a, cs[5]? = some a := ⟨_, Array.getElem?_eq_getElem (by rw [hcs]; exact (show 5 < 6 by decide))⟩
      have qf0 : W.frozen? ⟨gq, 0, none⟩ = false := hb.frozen 0
      have qg0 : W.cell? ⟨gq, 0, none⟩ = some qa0 := (hb.cell 0).trans qh0
      have qf1 : W.frozen? ⟨gq, 1, none⟩ = false := hb.frozen 1
      have qg1 : W.cell? ⟨gq, 1, none⟩ = some qa1 := (hb.cell 1).trans qh1
      have qf2 : W.frozen? ⟨gq, 2, none⟩ = false := hb.frozen 2
      have qg2 : W.cell? ⟨gq, 2, none⟩ = some qa2 := (hb.cell 2).trans qh2
      have qf3 : W.frozen? ⟨gq, 3, none⟩ = false := hb.frozen 3
      have qg3 : W.cell? ⟨gq, 3, none⟩ = some qa3 := (hb.cell 3).trans qh3
      have qf4 : W.frozen? ⟨gq, 4, none⟩ = false := hb.frozen 4
      have qg4 : W.cell? ⟨gq, 4, none⟩ = some qa4 := (hb.cell 4).trans qh4
      have qf5 : W.frozen? ⟨gq, 5, none⟩ = false := hb.frozen 5
      have qg5 : W.cell? ⟨gq, 5, none⟩ = some qa5 := (hb.cell 5).trans qh5
      subst d1
      subst hs2
      refine wpOp_of_list (by rfl) ?_
      go_wp2
      refine HK.out _ _ ⟨_, _, _, _, _, _, rfl, hJ.fill HOK.out ⟨3, 5, 26, #[.string q.name, .slice ua q.l.length uc, .slice ta q.m.length tc, .int .i64 q.cover, .int .i64 q.agg, .int .i64 q.poker]⟩ (by simp) hka hs hg ((((((hJ.below.setCell hg _).setCell hg _).setCell hg _).setCell hg _).setCell hg _).setCell hg _) (fun k hk => by rw [Below.heap_setCell _ _ _ _ hk, Below.heap_setCell _ _ _ _ hk, Below.heap_setCell _ _ _ _ hk, Below.heap_setCell _ _ _ _ hk, Below.heap_setCell _ _ _ _ hk, Below.heap_setCell _ _ _ _ hk]) ?_⟩
      show Blk _ gq #[.string q.name, .slice ua q.l.length uc, .slice ta q.m.length tc, .int .i64 q.cover, .int .i64 q.agg, .int .i64 q.poker] _
      rw [← fill6 (a := .string q.name) (b := .slice ua q.l.length uc) (c := .slice ta q.m.length tc) (d := .int .i64 q.cover) (e := .int .i64 q.agg) (f := .int .i64 q.poker) hcs]
      exact ((((((hb.set 0 _).set 1 _).set 2 _).set 3 _).set 4 _).set 5 _)
  · intro vs L W hlen hJ hall
    clear hok
    obtain ⟨x0, vs0, rfl, hlen0⟩ := len_cons hlen
    obtain ⟨x1, vs1, rfl, hlen1⟩ := len_cons hlen0
    obtain ⟨x2, vs2, rfl, hlen2⟩ := len_cons hlen1
    obtain ⟨x3, vs3, rfl, hlen3⟩ := len_cons hlen2
    obtain ⟨x4, vs4, rfl, hlen4⟩ := len_cons hlen3
    obtain ⟨x5, vs5, rfl, hlen5⟩ := len_cons hlen4
    obtain rfl := len_nil hlen5
    clear hlen hlen0 hlen1 hlen2 hlen3 hlen4 hlen5
    obtain ⟨g0, hs0, hg0, cs0, -, hk0, hc0⟩ := hJ.made ⟨2, 4, 26, #[.string q.name, .slice ua q.l.length uc, .slice ta q.m.length tc, .int .i64 q.cover, .int .i64 q.agg, .int .i64 q.poker]⟩ (by simp) (hall 2 (of_decide_eq_true (by kernel_rfl)))
    obtain rfl : cs0 = #[.string q.name, .slice ua q.l.length uc, .slice ta q.m.length tc, .int .i64 q.cover, .int .i64 q.agg, .int .i64 q.poker] := hc0 (hall 4 (of_decide_eq_true (by kernel_rfl)))
    obtain ⟨g1, hs1, hg1, cs1, -, hk1, hc1⟩ := hJ.made ⟨3, 5, 26, #[.string q.name, .slice ua q.l.length uc, .slice ta q.m.length tc, .int .i64 q.cover, .int .i64 q.agg, .int .i64 q.poker]⟩ (by simp) (hall 3 (of_decide_eq_true (by kernel_rfl)))
    obtain rfl : cs1 = #[.string q.name, .slice ua q.l.length uc, .slice ta q.m.length tc, .int .i64 q.cover, .int .i64 q.agg, .int .i64 q.poker] := hc1 (hall 5 (of_decide_eq_true (by kernel_rfl)))
    have d0 : x0 = (.agg #[.string q.name, .slice ua q.l.length uc, .slice ta q.m.length tc, .int .i64 q.cover, .int .i64 q.agg, .int .i64 q.poker]) := hJ.val 0 (show 0 < 6 by decide) (by decide) (hall 0 (of_decide_eq_true (by kernel_rfl)))
    have d1 : x1 = (.agg #[.string q.name, .slice ua q.l.length uc, .slice ta q.m.length tc, .int .i64 q.cover, .int .i64 q.agg, .int .i64 q.poker]) := hJ.val 1 (show 1 < 6 by decide) (by decide) (hall 1 (of_decide_eq_true (by kernel_rfl)))
    have e0 : x2 = .pointer (some ⟨g0, 0, none⟩) := hs0
    have e1 : x3 = .pointer (some ⟨g1, 0, none⟩) := hs1
    have hne01 : g0 ≠ g1 := fun e => hJ.diff ⟨2, 4, 26, #[.string q.name, .slice ua q.l.length uc, .slice ta q.m.length tc, .int .i64 q.cover, .int .i64 q.agg, .int .i64 q.poker]⟩ (by simp) ⟨3, 5, 26, #[.string q.name, .slice ua q.l.length uc, .slice ta q.m.length tc, .int .i64 q.cover, .int .i64 q.agg, .int .i64 q.poker]⟩ (by simp) (show 2 ≠ 3 by decide) (hall 2 (of_decide_eq_true (by kernel_rfl))) (hall 3 (of_decide_eq_true (by kernel_rfl))) (hs0.trans (by rw [e]; exact hs1.symm))
    have hbel := hJ.below
    clear hJ hall hs0 hs1 hc0 hc1
    subst d0 d1 e0 e1
    simp only [putAll_cons, putAll_nil, put_some, put_none, List.setIfInBounds_toArray, List.set_cons_succ, List.set_cons_zero]
    have hne10 := hne01.symm
    have k01 : W.cell? ⟨g0, 1, none⟩ = some (.slice ua q.l.length uc) := hk0.cell 1
    have k02 : W.cell? ⟨g0, 2, none⟩ = some (.slice ta q.m.length tc) := hk0.cell 2
    have k11 : W.cell? ⟨g1, 1, none⟩ = some (.slice ua q.l.length uc) := hk1.cell 1
    have k12 : W.cell? ⟨g1, 2, none⟩ = some (.slice ta q.m.length tc) := hk1.cell 2
    have f01 : W.frozen? ⟨g0, 1, none⟩ = false := hk0.frozen 1
    have f02 : W.frozen? ⟨g0, 2, none⟩ = false := hk0.frozen 2
    have f11 : W.frozen? ⟨g1, 1, none⟩ = false := hk1.frozen 1
    have f12 : W.frozen? ⟨g1, 2, none⟩ = false := hk1.frozen 2
    go_upto_region 12 with fail
    refine world_mask (fun W2 => Below W0.heap.size W0 W2 ∧ Blk W2 g0 #[.string q.name, .slice none 0 0, .slice none 0 0, .int .i64 q.cover, .int .i64 q.agg, .int .i64 q.poker] 26 ∧ Blk W2 g1 #[.string q.name, .slice none 0 0, .slice none 0 0, .int .i64 q.cover, .int .i64 q.agg, .int .i64 q.poker] 26) _ ⟨?_, ?_, ?_⟩ ?_
    · exact (((hbel.setCell hg0 _).setCell hg0 _).setCell hg1 _).setCell hg1 _
    · exact (((hk0.set 1 _).set 2 _).other hne01 _).other hne01 _
    · exact (((hk1.other hne10 _).other hne10 _).set 1 _).set 2 _
    clear k01 f01 k02 f02 k11 f11 k12 f12 hbel hk0 hk1
    obtain ⟨gm, rfl⟩ : ∃ g, g = g0 := ⟨_, rfl⟩
    obtain ⟨gt, rfl⟩ : ∃ g, g = g1 := ⟨_, rfl⟩
    rintro W2 ⟨hb2, b1, b2⟩
    have c61 : W2.cell? ⟨w.heap.size, 1, none⟩ = some (.slice ua q.l.length uc) := (HMK.out.b6.below hb2).cell 1
    have hst : MovL W0 W2 gm gt (fun v => #[.string q.name, v, .slice none 0 0, .int .i64 q.cover, .int .i64 q.agg, .int .i64 q.poker]) (fun v => #[.string q.name, v, .slice none 0 0, .int .i64 q.cover, .int .i64 q.agg, .int .i64 q.poker]) (movedX dx dy dz) turnX q.l 0 (.slice none 0 0) (.slice none 0 0) W2 := ⟨hb2, fun _ _ _ _ => rfl, Nat.le_refl _, hb2.size, ⟨hg0, b1.lt⟩, ⟨hg1, b2.lt⟩, hne01, b1, b2, World.ownsRow_nil _ _ _ _, World.ownsRow_nil _ _ _ _, by simp [Value.ownBlock]⟩
    have HG := Lib.hid (And.intro hg0 (And.intro hg1 hne01))
    clear hb2 b1 b2 hg0 hg1 hne01 hne10
    go_wp2_with fail
    go_loopw [55, 20] (fun i _ wr => ∃ (k : Nat) (a a' : Value), k ≤ q.l.length ∧ i = .int .i64 k ∧ MovL W0 W2 gm gt (fun v => #[.string q.name, v, .slice none 0 0, .int .i64 q.cover, .int .i64 q.agg, .int .i64 q.poker]) (fun v => #[.string q.name, v, .slice none 0 0, .int .i64 q.cover, .int .i64 q.agg, .int .i64 q.poker]) (movedX dx dy dz) turnX q.l k a a' wr) (fun i _ _ => q.l.length - (intOf i).toNat)
    case atStart => exact ⟨0, .slice none 0 0, .slice none 0 0, Nat.zero_le _, rfl, hst⟩
    case round =>
      clear hst
      obtain ⟨k, a, a', hk, rfl, hM⟩ := hrel
      obtain ⟨a1, cap1, rfl, -, -, -⟩ := own_shape hM.r1
      obtain ⟨a2, cap2, rfl, -, -, -⟩ := own_shape hM.r2
      have HM1 := Lib.hid hM
      by_cases hlt : k < q.l.length
      · have q1 : (0 : Int) ≤ (k : Int) := by omega
        have q2 : (k : Int) < (q.l.length : Int) := by omega
        obtain ⟨bb, off, rfl, hba⟩ := HU4.out k hlt
        have hvb := HV.out k hlt
        obtain ⟨b, hb⟩ : ∃ b, q.l[k] = b := ⟨_, rfl⟩
        rw [hb] at hba hvb
        obtain ⟨y, ey⟩ := ext_of (HMK.out.below.trans (hM.below.mono HMK.out.below.size))
        have hba2 := hba.ext y
        rw [← ey] at hba2
        obtain ⟨c0, c1, c2, c3, c4, c5⟩ := hba2
        have HB := Lib.hid hb
        have HVB := Lib.hid hvb
        clear hM hba ey hb hvb
        go_upto_region 15 with fail
        refine world_mask (fun W => MovL W0 W2 gm gt (fun v => #[.string q.name, v, .slice none 0 0, .int .i64 q.cover, .int .i64 q.agg, .int .i64 q.poker]) (fun v => #[.string q.name, v, .slice none 0 0, .int .i64 q.cover, .int .i64 q.agg, .int .i64 q.poker]) (movedX dx dy dz) turnX q.l k (.slice a1 k cap1) (.slice a2 k cap2) W ∧ Blk W wr.heap.size #[.int .i64 b.lx, .int .i64 b.ly, .int .i64 b.lz, .int .i64 b.hx, .int .i64 b.hy, .int .i64 b.hz] 30 ∧ (.slice a1 k cap1 : Value).ownBlock ≠ some wr.heap.size ∧ (.slice a2 k cap2 : Value).ownBlock ≠ some wr.heap.size ∧ W2.heap.size ≤ wr.heap.size) _ ⟨HM1.out.grow (grow_alloc _ (grow_refl _)), Blk.new _ _ _, fun e => by have := (HM1.out.r1.lt _ e).2; omega, fun e => by have := (HM1.out.r2.lt _ e).2; omega, HM1.out.size⟩ ?_
        clear c0 c1 c2 c3 c4 c5 HM1
        generalize wr.heap.size = g20
        rintro W5 ⟨hM5, b20, n1, n2, hge⟩
        have HM5 := Lib.hid hM5
        have H20 := Lib.hid (And.intro b20 (And.intro n1 (And.intro n2 hge)))
        clear hM5 b20 n1 n2 hge
        have hok : Rw.ok (⟨2, 6, 7, 18, gm, 1, (fun v => #[.string q.name, v, .slice none 0 0, .int .i64 q.cover, .int .i64 q.agg, .int .i64 q.poker]) (.slice a1 k cap1), .slice a1 k cap1, k, boxCells ((q.l.take k).map (movedX dx dy dz)), boxCells [(movedX dx dy dz) b]⟩ : Rw) (⟨10, 14, 15, 21, gt, 1, (fun v => #[.string q.name, v, .slice none 0 0, .int .i64 q.cover, .int .i64 q.agg, .int .i64 q.poker]) (.slice a2 k cap2), .slice a2 k cap2, k, boxCells ((q.l.take k).map turnX), boxCells [turnX b]⟩ : Rw) := rw_ok (by decide)
        have hok2 : Rw.ok (⟨10, 14, 15, 21, gt, 1, (fun v => #[.string q.name, v, .slice none 0 0, .int .i64 q.cover, .int .i64 q.agg, .int .i64 q.poker]) (.slice a2 k cap2), .slice a2 k cap2, k, boxCells ((q.l.take k).map turnX), boxCells [turnX b]⟩ : Rw) (⟨2, 6, 7, 18, gm, 1, (fun v => #[.string q.name, v, .slice none 0 0, .int .i64 q.cover, .int .i64 q.agg, .int .i64 q.poker]) (.slice a1 k cap1), .slice a1 k cap1, k, boxCells ((q.l.take k).map (movedX dx dy dz)), boxCells [(movedX dx dy dz) b]⟩ : Rw) := rw_ok (by decide)
        have hpart : PartG [2, 6, 7, 18, 10, 14, 15, 21] (DApp 30 26 6 W2.heap.size W5 (⟨2, 6, 7, 18, gm, 1, (fun v => #[.string q.name, v, .slice none 0 0, .int .i64 q.cover, .int .i64 q.agg, .int .i64 q.poker]) (.slice a1 k cap1), .slice a1 k cap1, k, boxCells ((q.l.take k).map (movedX dx dy dz)), boxCells [(movedX dx dy dz) b]⟩ : Rw) (⟨10, 14, 15, 21, gt, 1, (fun v => #[.string q.name, v, .slice none 0 0, .int .i64 q.cover, .int .i64 q.agg, .int .i64 q.poker]) (.slice a2 k cap2), .slice a2 k cap2, k, boxCells ((q.l.take k).map turnX), boxCells [turnX b]⟩ : Rw)) := (show PartG (Rw.ks (⟨2, 6, 7, 18, gm, 1, (fun v => #[.string q.name, v, .slice none 0 0, .int .i64 q.cover, .int .i64 q.agg, .int .i64 q.poker]) (.slice a1 k cap1), .slice a1 k cap1, k, boxCells ((q.l.take k).map (movedX dx dy dz)), boxCells [(movedX dx dy dz) b]⟩ : Rw) ++ Rw.ks (⟨10, 14, 15, 21, gt, 1, (fun v => #[.string q.name, v, .slice none 0 0, .int .i64 q.cover, .int .i64 q.agg, .int .i64 q.poker]) (.slice a2 k cap2), .slice a2 k cap2, k, boxCells ((q.l.take k).map turnX), boxCells [turnX b]⟩ : Rw)) (DApp 30 26 6 W2.heap.size W5 (⟨2, 6, 7, 18, gm, 1, (fun v => #[.string q.name, v, .slice none 0 0, .int .i64 q.cover, .int .i64 q.agg, .int .i64 q.poker]) (.slice a1 k cap1), .slice a1 k cap1, k, boxCells ((q.l.take k).map (movedX dx dy dz)), boxCells [(movedX dx dy dz) b]⟩ : Rw) (⟨10, 14, 15, 21, gt, 1, (fun v => #[.string q.name, v, .slice none 0 0, .int .i64 q.cover, .int .i64 q.agg, .int .i64 q.poker]) (.slice a2 k cap2), .slice a2 k cap2, k, boxCells ((q.l.take k).map turnX), boxCells [turnX b]⟩ : Rw)) from DApp.part)
        have HPART := Lib.hid hpart
        clear hpart
        refine wp_region_G [.pointer (some ⟨gm, 1, none⟩), .pointer (some ⟨gm, 1, none⟩), undef, .func (.func 10) #[] #[.pointer (some ⟨gx, 0, none⟩), .pointer (some ⟨gy, 0, none⟩), .pointer (some ⟨gz, 0, none⟩)], (Value.agg #[.int .i64 b.lx, .int .i64 b.ly, .int .i64 b.lz, .int .i64 b.hx, .int .i64 b.hy, .int .i64 b.hz]), (Value.agg #[.int .i64 (movedX dx dy dz b).lx, .int .i64 (movedX dx dy dz b).ly, .int .i64 (movedX dx dy dz b).lz, .int .i64 (movedX dx dy dz b).hx, .int .i64 (movedX dx dy dz b).hy, .int .i64 (movedX dx dy dz b).hz]), undef, undef, .pointer (some ⟨gt, 1, none⟩), .pointer (some ⟨gt, 1, none⟩), undef, .func (.func 12) #[] #[], (Value.agg #[.int .i64 b.lx, .int .i64 b.ly, .int .i64 b.lz, .int .i64 b.hx, .int .i64 b.hy, .int .i64 b.hz]), (Value.agg #[.int .i64 (turnX b).lx, .int .i64 (turnX b).ly, .int .i64 (turnX b).lz, .int .i64 (turnX b).hx, .int .i64 (turnX b).hy, .int .i64 (turnX b).hz]), undef, undef, .pointer (some ⟨gm, 1, none⟩), .pointer (some ⟨gm, 1, none⟩), undef, .pointer (some ⟨gt, 1, none⟩), .pointer (some ⟨gt, 1, none⟩), undef] [2, 6, 7, 18, 10, 14, 15, 21] (DApp 30 26 6 W2.heap.size W5 (⟨2, 6, 7, 18, gm, 1, (fun v => #[.string q.name, v, .slice none 0 0, .int .i64 q.cover, .int .i64 q.agg, .int .i64 q.poker]) (.slice a1 k cap1), .slice a1 k cap1, k, boxCells ((q.l.take k).map (movedX dx dy dz)), boxCells [(movedX dx dy dz) b]⟩ : Rw) (⟨10, 14, 15, 21, gt, 1, (fun v => #[.string q.name, v, .slice none 0 0, .int .i64 q.cover, .int .i64 q.agg, .int .i64 q.poker]) (.slice a2 k cap2), .slice a2 k cap2, k, boxCells ((q.l.take k).map turnX), boxCells [turnX b]⟩ : Rw)) (by kernel_rfl) (by kernel_rfl) ?_ ?_ ?_
        · intro vs hlen
          refine HM5.out.drew ⟨rfl, rfl, rfl, rfl, rfl⟩ ⟨rfl, rfl, rfl, rfl, rfl⟩ (fun k hk => rep_false ?_)
          have hk' : k ∈ ([2, 6, 7, 18, 10, 14, 15, 21] : List Nat) := hk
          simp only [List.mem_cons, List.not_mem_nil, or_false] at hk'
          show k < 22
          omega
        · intro L vs W i hlen hJ hi
          obtain ⟨x0, vs0, rfl, hlen0⟩ := len_cons hlen
          obtain ⟨x1, vs1, rfl, hlen1⟩ := len_cons hlen0
          obtain ⟨x2, vs2, rfl, hlen2⟩ := len_cons hlen1
          obtain ⟨x3, vs3, rfl, hlen3⟩ := len_cons hlen2
          obtain ⟨x4, vs4, rfl, hlen4⟩ := len_cons hlen3
          obtain ⟨x5, vs5, rfl, hlen5⟩ := len_cons hlen4
          obtain ⟨x6, vs6, rfl, hlen6⟩ := len_cons hlen5
          obtain ⟨x7, vs7, rfl, hlen7⟩ := len_cons hlen6
          obtain ⟨x8, vs8, rfl, hlen8⟩ := len_cons hlen7
          obtain ⟨x9, vs9, rfl, hlen9⟩ := len_cons hlen8
          obtain ⟨x10, vs10, rfl, hlen10⟩ := len_cons hlen9
          obtain ⟨x11, vs11, rfl, hlen11⟩ := len_cons hlen10
          obtain ⟨x12, vs12, rfl, hlen12⟩ := len_cons hlen11
          obtain ⟨x13, vs13, rfl, hlen13⟩ := len_cons hlen12
          obtain ⟨x14, vs14, rfl, hlen14⟩ := len_cons hlen13
          obtain ⟨x15, vs15, rfl, hlen15⟩ := len_cons hlen14
          obtain ⟨x16, vs16, rfl, hlen16⟩ := len_cons hlen15
          obtain ⟨x17, vs17, rfl, hlen17⟩ := len_cons hlen16
          obtain ⟨x18, vs18, rfl, hlen18⟩ := len_cons hlen17
          obtain ⟨x19, vs19, rfl, hlen19⟩ := len_cons hlen18
          obtain ⟨x20, vs20, rfl, hlen20⟩ := len_cons hlen19
          obtain ⟨x21, vs21, rfl, hlen21⟩ := len_cons hlen20
          obtain rfl := len_nil hlen21
          clear hlen hlen0 hlen1 hlen2 hlen3 hlen4 hlen5 hlen6 hlen7 hlen8 hlen9 hlen10 hlen11 hlen12 hlen13 hlen14 hlen15 hlen16 hlen17 hlen18 hlen19 hlen20 hlen21
          obtain ⟨hun, o, ho, hd⟩ := mem_ready.1 hi
          have hin : i < 22 := by have := (Array.getElem?_eq_some_iff.1 ho).1; simpa using this
          refine wpOp_free (B := fun a' W' => ∃ x0 x1 x2 x3 x4 x5 x6 x7 x8 x9 x10 x11 x12 x13 x14 x15 x16 x17 x18 x19 x20 x21, a' = putAll _ [x0, x1, x2, x3, x4, x5, x6, x7, x8, x9, x10, x11, x12, x13, x14, x15, x16, x17, x18, x19, x20, x21] _ ∧ InvG _ _ _ [x0, x1, x2, x3, x4, x5, x6, x7, x8, x9, x10, x11, x12, x13, x14, x15, x16, x17, x18, x19, x20, x21] (L.setIfInBounds i true) W') (fun _ _ h => by obtain ⟨x0, x1, x2, x3, x4, x5, x6, x7, x8, x9, x10, x11, x12, x13, x14, x15, x16, x17, x18, x19, x20, x21, h1, h2⟩ := h; exact ⟨[x0, x1, x2, x3, x4, x5, x6, x7, x8, x9, x10, x11, x12, x13, x14, x15, x16, x17, x18, x19, x20, x21], rfl, h1, h2⟩) ?_
          intro K HK
          simp only [putAll_cons, putAll_nil, put_some, put_none, List.setIfInBounds_toArray, List.set_cons_succ, List.set_cons_zero] at HK ⊢
          have HOK := Lib.hid hok
          have HOK2 := Lib.hid hok2
          clear hok hok2
          have hold := HM5.out.old hJ.part ⟨rfl, rfl⟩ ⟨rfl, rfl⟩
          have hb20 := H20.out.1.of_block (hJ.part.frame _ H20.out.1.lt (Nat.ne_of_gt (Nat.lt_of_lt_of_le HM5.out.hg.2 H20.out.2.2.2)) (Nat.ne_of_gt (Nat.lt_of_lt_of_le HM5.out.hg'.2 H20.out.2.2.2)) H20.out.2.1 H20.out.2.2.1)
          have e0 : W.cell? ⟨g20, 0, none⟩ = some (.int .i64 b.lx) := hb20.cell 0
          have e1 : W.cell? ⟨g20, 1, none⟩ = some (.int .i64 b.ly) := hb20.cell 1
          have e2 : W.cell? ⟨g20, 2, none⟩ = some (.int .i64 b.lz) := hb20.cell 2
          have e3 : W.cell? ⟨g20, 3, none⟩ = some (.int .i64 b.hx) := hb20.cell 3
          have e4 : W.cell? ⟨g20, 4, none⟩ = some (.int .i64 b.hy) := hb20.cell 4
          have e5 : W.cell? ⟨g20, 5, none⟩ = some (.int .i64 b.hz) := hb20.cell 5
          have ex : W.cell? ⟨gx, 0, none⟩ = some (.int .i16 dx) := (HMK.out.bx.of_block (hold _ HMK.out.bx.lt)).cell 0
          have eY : W.cell? ⟨gy, 0, none⟩ = some (.int .i16 dy) := (HMK.out.bY.of_block (hold _ HMK.out.bY.lt)).cell 0
          have ez : W.cell? ⟨gz, 0, none⟩ = some (.int .i16 dz) := (HMK.out.bz.of_block (hold _ HMK.out.bz.lt)).cell 0
          clear hold hb20
          rcases (show i = 0 ∨ i = 1 ∨ i = 2 ∨ i = 3 ∨ i = 4 ∨ i = 5 ∨ i = 6 ∨ i = 7 ∨ i = 8 ∨ i = 9 ∨ i = 10 ∨ i = 11 ∨ i = 12 ∨ i = 13 ∨ i = 14 ∨ i = 15 ∨ i = 16 ∨ i = 17 ∨ i = 18 ∨ i = 19 ∨ i = 20 ∨ i = 21 by omega) with rfl | rfl | rfl | rfl | rfl | rfl | rfl | rfl | rfl | rfl | rfl | rfl | rfl | rfl | rfl | rfl | rfl | rfl | rfl | rfl | rfl | rfl
          · obtain rfl := Option.some.inj ho
            refine wpOp_of_list (by rfl) ?_
            go_wp2
            exact HK.out _ _ ⟨_, _, _, _, _, _, _, _, _, _, _, _, _, _, _, _, _, _, _, _, _, _, rfl, hJ.up HPART.out 0 (by decide) (show 0 < 22 by decide) rfl⟩
          · obtain rfl := Option.some.inj ho
            have d0 : x0 = .pointer (some ⟨gm, 1, none⟩) := hJ.val 0 (show 0 < 22 by decide) (by decide) (getD_upJ (hd ⟨0, .data⟩ (by simp) (by rfl)))
            subst d0
            refine wpOp_of_list (by rfl) ?_
            go_wp2
            exact HK.out _ _ ⟨_, _, _, _, _, _, _, _, _, _, _, _, _, _, _, _, _, _, _, _, _, _, rfl, hJ.up HPART.out 1 (by decide) (show 1 < 22 by decide) rfl⟩
          · obtain rfl := Option.some.inj ho
            have d1 : x1 = .pointer (some ⟨gm, 1, none⟩) := hJ.val 1 (show 1 < 22 by decide) (by decide) (getD_upJ (hd ⟨1, .data⟩ (by simp) (by rfl)))
            subst d1
            have hc : W.cell? ⟨gm, 1, none⟩ = some (.slice a1 k cap1) := hJ.part.cell hun (by rfl)
            refine wpOp_of_list (by rfl) ?_
            go_wp2
            exact HK.out _ _ ⟨_, _, _, _, _, _, _, _, _, _, _, _, _, _, _, _, _, _, _, _, _, _, rfl, hJ.spec 2 (by decide) _ ((hJ.part.stepL HOK.out (show 2 < 22 by decide) rfl))⟩
          · obtain rfl := Option.some.inj ho
            refine wpOp_of_list (by rfl) ?_
            go_wp2
            exact HK.out _ _ ⟨_, _, _, _, _, _, _, _, _, _, _, _, _, _, _, _, _, _, _, _, _, _, rfl, hJ.up HPART.out 3 (by decide) (show 3 < 22 by decide) rfl⟩
          · obtain rfl := Option.some.inj ho
            refine wpOp_of_list (by rfl) ?_
            go_wp2
            exact HK.out _ _ ⟨_, _, _, _, _, _, _, _, _, _, _, _, _, _, _, _, _, _, _, _, _, _, rfl, hJ.up HPART.out 4 (by decide) (show 4 < 22 by decide) rfl⟩
          · obtain rfl := Option.some.inj ho
            have d3 : x3 = .func (.func 10) #[] #[.pointer (some ⟨gx, 0, none⟩), .pointer (some ⟨gy, 0, none⟩), .pointer (some ⟨gz, 0, none⟩)] := hJ.val 3 (show 3 < 22 by decide) (by decide) (getD_upJ (hd ⟨3, .data⟩ (by simp) (by rfl)))
            have d4 : x4 = (Value.agg #[.int .i64 b.lx, .int .i64 b.ly, .int .i64 b.lz, .int .i64 b.hx, .int .i64 b.hy, .int .i64 b.hz]) := hJ.val 4 (show 4 < 22 by decide) (by decide) (getD_upJ (hd ⟨4, .data⟩ (by simp) (by rfl)))
            subst d3 d4
            refine wpOp_of_list (by rfl) ?_
            go_wp2_with fail
            go_at_call 10; refine (move18_c b dx dy dz HVB.out HX.out.1 HX.out.2.1 HX.out.2.2 gx gy gz W ex eY ez).mono ?_; rintro e w' ⟨rfl, xq, rfl⟩
            go_wp2
            exact HK.out _ _ ⟨_, _, _, _, _, _, _, _, _, _, _, _, _, _, _, _, _, _, _, _, _, _, rfl, (hJ.grow HPART.out _).up HPART.out 5 (by decide) (show 5 < 22 by decide) rfl⟩
          · obtain rfl := Option.some.inj ho
            have d5 : x5 = (Value.agg #[.int .i64 (movedX dx dy dz b).lx, .int .i64 (movedX dx dy dz b).ly, .int .i64 (movedX dx dy dz b).lz, .int .i64 (movedX dx dy dz b).hx, .int .i64 (movedX dx dy dz b).hy, .int .i64 (movedX dx dy dz b).hz]) := hJ.val 5 (show 5 < 22 by decide) (by decide) (getD_upJ (hd ⟨5, .data⟩ (by simp) (by rfl)))
            subst d5
            refine wpOp_of_list (by rfl) ?_
            go_wp2
            exact HK.out _ _ ⟨_, _, _, _, _, _, _, _, _, _, _, _, _, _, _, _, _, _, _, _, _, _, rfl, hJ.spec 6 (by decide) _ ((hJ.part.stepB HOK.out (show 6 < 22 by decide) rfl rfl))⟩
          · obtain rfl := Option.some.inj ho
            have hkl := (getD_upJ (hd ⟨2, .data⟩ (by simp) (by rfl)))
            have dl : x2 = .slice a1 k cap1 := hJ.part.r1.load hkl
            obtain ⟨gl, hl1, hl2, hl3⟩ := hJ.part.r1.lit (getD_upJ (hd ⟨6, .data⟩ (by simp) (by rfl)))
            have hl4 : x6 = .slice (some ⟨gl, 0, none⟩) 1 1 := hl1
            have hrow := hJ.part.r1.row0 hun
            subst dl hl4
            refine wpOp_of_list (by rfl) ?_
            refine app_own_w2 rfl _ _ 22 rfl 30 (.agg #[.int .i64 0, .int .i64 0, .int .i64 0, .int .i64 0, .int .i64 0, .int .i64 0]) 6 48 Try.underlying22 info_box' rfl (by decide) W2.heap.size (.slice a1 k cap1) k _ _ rfl hrow gl 1 1 _ rfl (by rfl) hl3 (boxCells_one _) (by have := HLN.out; omega) (by decide) (by have := HM5.out.size_le hJ.part; omega) ?_
            intro u' w' hown hg hw
            go_wp2
            exact HK.out _ _ ⟨_, _, _, _, _, _, _, _, _, _, _, _, _, _, _, _, _, _, _, _, _, _, rfl, hJ.spec 7 (by decide) _ ((hJ.part.stepA HOK.out (show 7 < 22 by decide) (by decide) hun hkl hown hg hw))⟩
          · obtain rfl := Option.some.inj ho
            refine wpOp_of_list (by rfl) ?_
            go_wp2
            exact HK.out _ _ ⟨_, _, _, _, _, _, _, _, _, _, _, _, _, _, _, _, _, _, _, _, _, _, rfl, hJ.up HPART.out 8 (by decide) (show 8 < 22 by decide) rfl⟩
          · obtain rfl := Option.some.inj ho
            have d8 : x8 = .pointer (some ⟨gt, 1, none⟩) := hJ.val 8 (show 8 < 22 by decide) (by decide) (getD_upJ (hd ⟨8, .data⟩ (by simp) (by rfl)))
            subst d8
            refine wpOp_of_list (by rfl) ?_
            go_wp2
            exact HK.out _ _ ⟨_, _, _, _, _, _, _, _, _, _, _, _, _, _, _, _, _, _, _, _, _, _, rfl, hJ.up HPART.out 9 (by decide) (show 9 < 22 by decide) rfl⟩
          · obtain rfl := Option.some.inj ho
            have d9 : x9 = .pointer (some ⟨gt, 1, none⟩) := hJ.val 9 (show 9 < 22 by decide) (by decide) (getD_upJ (hd ⟨9, .data⟩ (by simp) (by rfl)))
            subst d9
            have hc : W.cell? ⟨gt, 1, none⟩ = some (.slice a2 k cap2) := hJ.part.swap.cell hun (by rfl)
            refine wpOp_of_list (by rfl) ?_
            go_wp2
            exact HK.out _ _ ⟨_, _, _, _, _, _, _, _, _, _, _, _, _, _, _, _, _, _, _, _, _, _, rfl, hJ.spec 10 (by decide) _ ((hJ.part.swap.stepL HOK2.out (show 10 < 22 by decide) rfl).swap)⟩
          · obtain rfl := Option.some.inj ho
            refine wpOp_of_list (by rfl) ?_
            go_wp2
            exact HK.out _ _ ⟨_, _, _, _, _, _, _, _, _, _, _, _, _, _, _, _, _, _, _, _, _, _, rfl, hJ.up HPART.out 11 (by decide) (show 11 < 22 by decide) rfl⟩
          · obtain rfl := Option.some.inj ho
            refine wpOp_of_list (by rfl) ?_
            go_wp2
            exact HK.out _ _ ⟨_, _, _, _, _, _, _, _, _, _, _, _, _, _, _, _, _, _, _, _, _, _, rfl, hJ.up HPART.out 12 (by decide) (show 12 < 22 by decide) rfl⟩
          · obtain rfl := Option.some.inj ho
            have d11 : x11 = .func (.func 12) #[] #[] := hJ.val 11 (show 11 < 22 by decide) (by decide) (getD_upJ (hd ⟨11, .data⟩ (by simp) (by rfl)))
            have d12 : x12 = (Value.agg #[.int .i64 b.lx, .int .i64 b.ly, .int .i64 b.lz, .int .i64 b.hx, .int .i64 b.hy, .int .i64 b.hz]) := hJ.val 12 (show 12 < 22 by decide) (by decide) (getD_upJ (hd ⟨12, .data⟩ (by simp) (by rfl)))
            subst d11 d12
            refine wpOp_of_list (by rfl) ?_
            go_wp2_with fail
            go_at_call 12; refine (turn18_c b HVB.out _).mono ?_; rintro e w' ⟨rfl, xq, rfl⟩
            go_wp2
            exact HK.out _ _ ⟨_, _, _, _, _, _, _, _, _, _, _, _, _, _, _, _, _, _, _, _, _, _, rfl, (hJ.grow HPART.out _).up HPART.out 13 (by decide) (show 13 < 22 by decide) rfl⟩
          · obtain rfl := Option.some.inj ho
            have d13 : x13 = (Value.agg #[.int .i64 (turnX b).lx, .int .i64 (turnX b).ly, .int .i64 (turnX b).lz, .int .i64 (turnX b).hx, .int .i64 (turnX b).hy, .int .i64 (turnX b).hz]) := hJ.val 13 (show 13 < 22 by decide) (by decide) (getD_upJ (hd ⟨13, .data⟩ (by simp) (by rfl)))
            subst d13
            refine wpOp_of_list (by rfl) ?_
            go_wp2
            exact HK.out _ _ ⟨_, _, _, _, _, _, _, _, _, _, _, _, _, _, _, _, _, _, _, _, _, _, rfl, hJ.spec 14 (by decide) _ ((hJ.part.swap.stepB HOK2.out (show 14 < 22 by decide) rfl rfl).swap)⟩
          · obtain rfl := Option.some.inj ho
            have hkl := (getD_upJ (hd ⟨10, .data⟩ (by simp) (by rfl)))
            have dl : x10 = .slice a2 k cap2 := hJ.part.swap.r1.load hkl
            obtain ⟨gl, hl1, hl2, hl3⟩ := hJ.part.swap.r1.lit (getD_upJ (hd ⟨14, .data⟩ (by simp) (by rfl)))
            have hl4 : x14 = .slice (some ⟨gl, 0, none⟩) 1 1 := hl1
            have hrow := hJ.part.swap.r1.row0 hun
            subst dl hl4
            refine wpOp_of_list (by rfl) ?_
            refine app_own_w2 rfl _ _ 22 rfl 30 (.agg #[.int .i64 0, .int .i64 0, .int .i64 0, .int .i64 0, .int .i64 0, .int .i64 0]) 6 48 Try.underlying22 info_box' rfl (by decide) W2.heap.size (.slice a2 k cap2) k _ _ rfl hrow gl 1 1 _ rfl (by rfl) hl3 (boxCells_one _) (by have := HLN.out; omega) (by decide) (by have := HM5.out.size_le hJ.part; omega) ?_
            intro u' w' hown hg hw
            go_wp2
            exact HK.out _ _ ⟨_, _, _, _, _, _, _, _, _, _, _, _, _, _, _, _, _, _, _, _, _, _, rfl, hJ.spec 15 (by decide) _ ((hJ.part.swap.stepA HOK2.out (show 15 < 22 by decide) (by decide) hun hkl hown hg hw).swap)⟩
          · obtain rfl := Option.some.inj ho
            refine wpOp_of_list (by rfl) ?_
            go_wp2
            exact HK.out _ _ ⟨_, _, _, _, _, _, _, _, _, _, _, _, _, _, _, _, _, _, _, _, _, _, rfl, hJ.up HPART.out 16 (by decide) (show 16 < 22 by decide) rfl⟩
          · obtain rfl := Option.some.inj ho
            have d16 : x16 = .pointer (some ⟨gm, 1, none⟩) := hJ.val 16 (show 16 < 22 by decide) (by decide) (getD_upJ (hd ⟨16, .data⟩ (by simp) (by rfl)))
            subst d16
            refine wpOp_of_list (by rfl) ?_
            go_wp2
            exact HK.out _ _ ⟨_, _, _, _, _, _, _, _, _, _, _, _, _, _, _, _, _, _, _, _, _, _, rfl, hJ.up HPART.out 17 (by decide) (show 17 < 22 by decide) rfl⟩
          · obtain rfl := Option.some.inj ho
            have d17 : x17 = .pointer (some ⟨gm, 1, none⟩) := hJ.val 17 (show 17 < 22 by decide) (by decide) (getD_upJ (hd ⟨17, .data⟩ (by simp) (by rfl)))
            subst d17
            have hka := (getD_upJ (hd ⟨7, .data⟩ (by simp) (by rfl)))
            have hb := hJ.part.r1.blk0 hun
            have qf : W.frozen? ⟨gm, 1, none⟩ = false := hb.frozen 1
            have qg : W.cell? ⟨gm, 1, none⟩ = some (.slice a1 k cap1) := (hb.cell 1).trans rfl
            obtain ⟨au, cu, hx1, -, -, -⟩ := own_shape (hJ.part.r1.row1 hka)
            have hx2 : x7 = .slice au (k + 1) cu := hx1
            subst hx2
            refine wpOp_of_list (by rfl) ?_
            go_wp2
            exact HK.out _ _ ⟨_, _, _, _, _, _, _, _, _, _, _, _, _, _, _, _, _, _, _, _, _, _, rfl, hJ.spec0 18 (by decide) ((hJ.part.stepS HOK.out (by decide) hun hka rfl rfl))⟩
          · obtain rfl := Option.some.inj ho
            refine wpOp_of_list (by rfl) ?_
            go_wp2
            exact HK.out _ _ ⟨_, _, _, _, _, _, _, _, _, _, _, _, _, _, _, _, _, _, _, _, _, _, rfl, hJ.up HPART.out 19 (by decide) (show 19 < 22 by decide) rfl⟩
          · obtain rfl := Option.some.inj ho
            have d19 : x19 = .pointer (some ⟨gt, 1, none⟩) := hJ.val 19 (show 19 < 22 by decide) (by decide) (getD_upJ (hd ⟨19, .data⟩ (by simp) (by rfl)))
            subst d19
            refine wpOp_of_list (by rfl) ?_
            go_wp2
            exact HK.out _ _ ⟨_, _, _, _, _, _, _, _, _, _, _, _, _, _, _, _, _, _, _, _, _, _, rfl, hJ.up HPART.out 20 (by decide) (show 20 < 22 by decide) rfl⟩
          · obtain rfl := Option.some.inj ho
            have d20 : x20 = .pointer (some ⟨gt, 1, none⟩) := hJ.val 20 (show 20 < 22 by decide) (by decide) (getD_upJ (hd ⟨20, .data⟩ (by simp) (by rfl)))
            subst d20
            have hka := (getD_upJ (hd ⟨15, .data⟩ (by simp) (by rfl)))
            have hb := hJ.part.swap.r1.blk0 hun
            have qf : W.frozen? ⟨gt, 1, none⟩ = false := hb.frozen 1
            have qg : W.cell? ⟨gt, 1, none⟩ = some (.slice a2 k cap2) := (hb.cell 1).trans rfl
            obtain ⟨au, cu, hx1, -, -, -⟩ := own_shape (hJ.part.swap.r1.row1 hka)
            have hx2 : x15 = .slice au (k + 1) cu := hx1
            subst hx2
            refine wpOp_of_list (by rfl) ?_
            go_wp2
            exact HK.out _ _ ⟨_, _, _, _, _, _, _, _, _, _, _, _, _, _, _, _, _, _, _, _, _, _, rfl, hJ.spec0 21 (by decide) ((hJ.part.swap.stepS HOK2.out (by decide) hun hka rfl rfl).swap)⟩
        · intro vs L W hlen hJ hall
          obtain ⟨x0, vs0, rfl, hlen0⟩ := len_cons hlen
          obtain ⟨x1, vs1, rfl, hlen1⟩ := len_cons hlen0
          obtain ⟨x2, vs2, rfl, hlen2⟩ := len_cons hlen1
          obtain ⟨x3, vs3, rfl, hlen3⟩ := len_cons hlen2
          obtain ⟨x4, vs4, rfl, hlen4⟩ := len_cons hlen3
          obtain ⟨x5, vs5, rfl, hlen5⟩ := len_cons hlen4
          obtain ⟨x6, vs6, rfl, hlen6⟩ := len_cons hlen5
          obtain ⟨x7, vs7, rfl, hlen7⟩ := len_cons hlen6
          obtain ⟨x8, vs8, rfl, hlen8⟩ := len_cons hlen7
          obtain ⟨x9, vs9, rfl, hlen9⟩ := len_cons hlen8
          obtain ⟨x10, vs10, rfl, hlen10⟩ := len_cons hlen9
          obtain ⟨x11, vs11, rfl, hlen11⟩ := len_cons hlen10
          obtain ⟨x12, vs12, rfl, hlen12⟩ := len_cons hlen11
          obtain ⟨x13, vs13, rfl, hlen13⟩ := len_cons hlen12
          obtain ⟨x14, vs14, rfl, hlen14⟩ := len_cons hlen13
          obtain ⟨x15, vs15, rfl, hlen15⟩ := len_cons hlen14
          obtain ⟨x16, vs16, rfl, hlen16⟩ := len_cons hlen15
          obtain ⟨x17, vs17, rfl, hlen17⟩ := len_cons hlen16
          obtain ⟨x18, vs18, rfl, hlen18⟩ := len_cons hlen17
          obtain ⟨x19, vs19, rfl, hlen19⟩ := len_cons hlen18
          obtain ⟨x20, vs20, rfl, hlen20⟩ := len_cons hlen19
          obtain ⟨x21, vs21, rfl, hlen21⟩ := len_cons hlen20
          obtain rfl := len_nil hlen21
          clear hlen hlen0 hlen1 hlen2 hlen3 hlen4 hlen5 hlen6 hlen7 hlen8 hlen9 hlen10 hlen11 hlen12 hlen13 hlen14 hlen15 hlen16 hlen17 hlen18 hlen19 hlen20 hlen21
          have d0 : x0 = .pointer (some ⟨gm, 1, none⟩) := hJ.val 0 (show 0 < 22 by decide) (by decide) (hall 0 (of_decide_eq_true (by kernel_rfl)))
          have d1 : x1 = .pointer (some ⟨gm, 1, none⟩) := hJ.val 1 (show 1 < 22 by decide) (by decide) (hall 1 (of_decide_eq_true (by kernel_rfl)))
          have d3 : x3 = .func (.func 10) #[] #[.pointer (some ⟨gx, 0, none⟩), .pointer (some ⟨gy, 0, none⟩), .pointer (some ⟨gz, 0, none⟩)] := hJ.val 3 (show 3 < 22 by decide) (by decide) (hall 3 (of_decide_eq_true (by kernel_rfl)))
          have d4 : x4 = (Value.agg #[.int .i64 b.lx, .int .i64 b.ly, .int .i64 b.lz, .int .i64 b.hx, .int .i64 b.hy, .int .i64 b.hz]) := hJ.val 4 (show 4 < 22 by decide) (by decide) (hall 4 (of_decide_eq_true (by kernel_rfl)))
          have d5 : x5 = (Value.agg #[.int .i64 (movedX dx dy dz b).lx, .int .i64 (movedX dx dy dz b).ly, .int .i64 (movedX dx dy dz b).lz, .int .i64 (movedX dx dy dz b).hx, .int .i64 (movedX dx dy dz b).hy, .int .i64 (movedX dx dy dz b).hz]) := hJ.val 5 (show 5 < 22 by decide) (by decide) (hall 5 (of_decide_eq_true (by kernel_rfl)))
          have d8 : x8 = .pointer (some ⟨gt, 1, none⟩) := hJ.val 8 (show 8 < 22 by decide) (by decide) (hall 8 (of_decide_eq_true (by kernel_rfl)))
          have d9 : x9 = .pointer (some ⟨gt, 1, none⟩) := hJ.val 9 (show 9 < 22 by decide) (by decide) (hall 9 (of_decide_eq_true (by kernel_rfl)))
          have d11 : x11 = .func (.func 12) #[] #[] := hJ.val 11 (show 11 < 22 by decide) (by decide) (hall 11 (of_decide_eq_true (by kernel_rfl)))
          have d12 : x12 = (Value.agg #[.int .i64 b.lx, .int .i64 b.ly, .int .i64 b.lz, .int .i64 b.hx, .int .i64 b.hy, .int .i64 b.hz]) := hJ.val 12 (show 12 < 22 by decide) (by decide) (hall 12 (of_decide_eq_true (by kernel_rfl)))
          have d13 : x13 = (Value.agg #[.int .i64 (turnX b).lx, .int .i64 (turnX b).ly, .int .i64 (turnX b).lz, .int .i64 (turnX b).hx, .int .i64 (turnX b).hy, .int .i64 (turnX b).hz]) := hJ.val 13 (show 13 < 22 by decide) (by decide) (hall 13 (of_decide_eq_true (by kernel_rfl)))
          have d16 : x16 = .pointer (some ⟨gm, 1, none⟩) := hJ.val 16 (show 16 < 22 by decide) (by decide) (hall 16 (of_decide_eq_true (by kernel_rfl)))
          have d17 : x17 = .pointer (some ⟨gm, 1, none⟩) := hJ.val 17 (show 17 < 22 by decide) (by decide) (hall 17 (of_decide_eq_true (by kernel_rfl)))
          have d19 : x19 = .pointer (some ⟨gt, 1, none⟩) := hJ.val 19 (show 19 < 22 by decide) (by decide) (hall 19 (of_decide_eq_true (by kernel_rfl)))
          have d20 : x20 = .pointer (some ⟨gt, 1, none⟩) := hJ.val 20 (show 20 < 22 by decide) (by decide) (hall 20 (of_decide_eq_true (by kernel_rfl)))
          subst d0 d1 d3 d4 d5 d8 d9 d11 d12 d13 d16 d17 d19 d20
          have hN := HM5.out.next hlt hJ.part ⟨rfl, rfl, rfl, rfl, rfl, by show boxCells [movedX dx dy dz b] = _; rw [HB.out]⟩ ⟨rfl, rfl, rfl, rfl, rfl, by show boxCells [turnX b] = _; rw [HB.out]⟩ (fun _ => rfl) (fun _ => rfl) (hall 18 (of_decide_eq_true (by kernel_rfl))) (hall 7 (of_decide_eq_true (by kernel_rfl))) (hall 21 (of_decide_eq_true (by kernel_rfl))) (hall 15 (of_decide_eq_true (by kernel_rfl)))
          have HNX := Lib.hid hN
          clear hN hJ hall hok hok2
          simp only [putAll_cons, putAll_nil, put_some, put_none, List.setIfInBounds_toArray, List.set_cons_succ, List.set_cons_zero]
          have hln := HLN.out.1
          go_wp2
          go_roundw
          case rel => exact ⟨k + 1, x7, x15, by omega, by go_num, HNX.out⟩
          case measure => simp [intOf]; omega
      · obtain rfl : k = q.l.length := by omega
        obtain ⟨W3, rfl⟩ : ∃ W : World, W = wr := ⟨_, rfl⟩
        have c62 : W3.cell? ⟨w.heap.size, 2, none⟩ = some (.slice ta q.m.length tc) := (HMK.out.b6.below HM1.out.below).cell 2
        have hst2 : MovL W0 W3 gm gt (fun v => #[.string q.name, (.slice a1 q.l.length cap1), v, .int .i64 q.cover, .int .i64 q.agg, .int .i64 q.poker]) (fun v => #[.string q.name, (.slice a2 q.l.length cap2), v, .int .i64 q.cover, .int .i64 q.agg, .int .i64 q.poker]) (movedX dx dy dz) turnX q.m 0 (.slice none 0 0) (.slice none 0 0) W3 := ⟨HM1.out.below, fun _ _ _ _ => rfl, Nat.le_refl _, HM1.out.below.size, ⟨HM1.out.hg.1, HM1.out.b1.lt⟩, ⟨HM1.out.hg'.1, HM1.out.b2.lt⟩, HM1.out.ne, HM1.out.b1, HM1.out.b2, World.ownsRow_nil _ _ _ _, World.ownsRow_nil _ _ _ _, by simp [Value.ownBlock]⟩
        clear hM hlt hk c61
        go_wp2_with fail
        go_loopw [84, 22] (fun i _ wr => ∃ (k : Nat) (a a' : Value), k ≤ q.m.length ∧ i = .int .i64 k ∧ MovL W0 W3 gm gt (fun v => #[.string q.name, (.slice a1 q.l.length cap1), v, .int .i64 q.cover, .int .i64 q.agg, .int .i64 q.poker]) (fun v => #[.string q.name, (.slice a2 q.l.length cap2), v, .int .i64 q.cover, .int .i64 q.agg, .int .i64 q.poker]) (movedX dx dy dz) turnX q.m k a a' wr) (fun i _ _ => q.m.length - (intOf i).toNat)
        case atStart => exact ⟨0, .slice none 0 0, .slice none 0 0, Nat.zero_le _, rfl, hst2⟩
        case round =>
          clear hst2
          obtain ⟨k, a, a', hk, rfl, hM⟩ := hrel
          obtain ⟨a3, cap3, rfl, -, -, -⟩ := own_shape hM.r1
          obtain ⟨a4, cap4, rfl, -, -, -⟩ := own_shape hM.r2
          have HM2 := Lib.hid hM
          by_cases hlt : k < q.m.length
          · have q1 : (0 : Int) ≤ (k : Int) := by omega
            have q2 : (k : Int) < (q.m.length : Int) := by omega
            obtain ⟨bb, off, rfl, hba⟩ := HT4.out k hlt
            have hvb := HVM.out k hlt
            obtain ⟨b, hb⟩ : ∃ b, q.m[k] = b := ⟨_, rfl⟩
            rw [hb] at hba hvb
            obtain ⟨y, ey⟩ := ext_of (HMK.out.below.trans (hM.below.mono HMK.out.below.size))
            have hba2 := hba.ext y
            rw [← ey] at hba2
            obtain ⟨c0, c1, c2, c3, c4, c5⟩ := hba2
            have HB := Lib.hid hb
            have HVB := Lib.hid hvb
            clear hM hba ey hb hvb
            go_upto_region 20 with fail
            refine world_mask (fun W => MovL W0 W3 gm gt (fun v => #[.string q.name, (.slice a1 q.l.length cap1), v, .int .i64 q.cover, .int .i64 q.agg, .int .i64 q.poker]) (fun v => #[.string q.name, (.slice a2 q.l.length cap2), v, .int .i64 q.cover, .int .i64 q.agg, .int .i64 q.poker]) (movedX dx dy dz) turnX q.m k (.slice a3 k cap3) (.slice a4 k cap4) W ∧ Blk W wr.heap.size #[.int .i64 b.lx, .int .i64 b.ly, .int .i64 b.lz, .int .i64 b.hx, .int .i64 b.hy, .int .i64 b.hz] 30 ∧ (.slice a3 k cap3 : Value).ownBlock ≠ some wr.heap.size ∧ (.slice a4 k cap4 : Value).ownBlock ≠ some wr.heap.size ∧ W3.heap.size ≤ wr.heap.size) _ ⟨HM2.out.grow (grow_alloc _ (grow_refl _)), Blk.new _ _ _, fun e => by have := (HM2.out.r1.lt _ e).2; omega, fun e => by have := (HM2.out.r2.lt _ e).2; omega, HM2.out.size⟩ ?_
            clear c0 c1 c2 c3 c4 c5 HM2
            generalize wr.heap.size = g20
            rintro W5 ⟨hM5, b20, n1, n2, hge⟩
            have HM5 := Lib.hid hM5
            have H20 := Lib.hid (And.intro b20 (And.intro n1 (And.intro n2 hge)))
            clear hM5 b20 n1 n2 hge
            have hok : Rw.ok (⟨2, 6, 7, 18, gm, 2, (fun v => #[.string q.name, (.slice a1 q.l.length cap1), v, .int .i64 q.cover, .int .i64 q.agg, .int .i64 q.poker]) (.slice a3 k cap3), .slice a3 k cap3, k, boxCells ((q.m.take k).map (movedX dx dy dz)), boxCells [(movedX dx dy dz) b]⟩ : Rw) (⟨10, 14, 15, 21, gt, 2, (fun v => #[.string q.name, (.slice a2 q.l.length cap2), v, .int .i64 q.cover, .int .i64 q.agg, .int .i64 q.poker]) (.slice a4 k cap4), .slice a4 k cap4, k, boxCells ((q.m.take k).map turnX), boxCells [turnX b]⟩ : Rw) := rw_ok (by decide)
            have hok2 : Rw.ok (⟨10, 14, 15, 21, gt, 2, (fun v => #[.string q.name, (.slice a2 q.l.length cap2), v, .int .i64 q.cover, .int .i64 q.agg, .int .i64 q.poker]) (.slice a4 k cap4), .slice a4 k cap4, k, boxCells ((q.m.take k).map turnX), boxCells [turnX b]⟩ : Rw) (⟨2, 6, 7, 18, gm, 2, (fun v => #[.string q.name, (.slice a1 q.l.length cap1), v, .int .i64 q.cover, .int .i64 q.agg, .int .i64 q.poker]) (.slice a3 k cap3), .slice a3 k cap3, k, boxCells ((q.m.take k).map (movedX dx dy dz)), boxCells [(movedX dx dy dz) b]⟩ : Rw) := rw_ok (by decide)
            have hpart : PartG [2, 6, 7, 18, 10, 14, 15, 21] (DApp 30 26 6 W3.heap.size W5 (⟨2, 6, 7, 18, gm, 2, (fun v => #[.string q.name, (.slice a1 q.l.length cap1), v, .int .i64 q.cover, .int .i64 q.agg, .int .i64 q.poker]) (.slice a3 k cap3), .slice a3 k cap3, k, boxCells ((q.m.take k).map (movedX dx dy dz)), boxCells [(movedX dx dy dz) b]⟩ : Rw) (⟨10, 14, 15, 21, gt, 2, (fun v => #[.string q.name, (.slice a2 q.l.length cap2), v, .int .i64 q.cover, .int .i64 q.agg, .int .i64 q.poker]) (.slice a4 k cap4), .slice a4 k cap4, k, boxCells ((q.m.take k).map turnX), boxCells [turnX b]⟩ : Rw)) := (show PartG (Rw.ks (⟨2, 6, 7, 18, gm, 2, (fun v => #[.string q.name, (.slice a1 q.l.length cap1), v, .int .i64 q.cover, .int .i64 q.agg, .int .i64 q.poker]) (.slice a3 k cap3), .slice a3 k cap3, k, boxCells ((q.m.take k).map (movedX dx dy dz)), boxCells [(movedX dx dy dz) b]⟩ : Rw) ++ Rw.ks (⟨10, 14, 15, 21, gt, 2, (fun v => #[.string q.name, (.slice a2 q.l.length cap2), v, .int .i64 q.cover, .int .i64 q.agg, .int .i64 q.poker]) (.slice a4 k cap4), .slice a4 k cap4, k, boxCells ((q.m.take k).map turnX), boxCells [turnX b]⟩ : Rw)) (DApp 30 26 6 W3.heap.size W5 (⟨2, 6, 7, 18, gm, 2, (fun v => #[.string q.name, (.slice a1 q.l.length cap1), v, .int .i64 q.cover, .int .i64 q.agg, .int .i64 q.poker]) (.slice a3 k cap3), .slice a3 k cap3, k, boxCells ((q.m.take k).map (movedX dx dy dz)), boxCells [(movedX dx dy dz) b]⟩ : Rw) (⟨10, 14, 15, 21, gt, 2, (fun v => #[.string q.name, (.slice a2 q.l.length cap2), v, .int .i64 q.cover, .int .i64 q.agg, .int .i64 q.poker]) (.slice a4 k cap4), .slice a4 k cap4, k, boxCells ((q.m.take k).map turnX), boxCells [turnX b]⟩ : Rw)) from DApp.part)
            have HPART := Lib.hid hpart
            clear hpart
            refine wp_region_G [.pointer (some ⟨gm, 1, none⟩), .pointer (some ⟨gm, 2, none⟩), undef, .func (.func 10) #[] #[.pointer (some ⟨gx, 0, none⟩), .pointer (some ⟨gy, 0, none⟩), .pointer (some ⟨gz, 0, none⟩)], (Value.agg #[.int .i64 b.lx, .int .i64 b.ly, .int .i64 b.lz, .int .i64 b.hx, .int .i64 b.hy, .int .i64 b.hz]), (Value.agg #[.int .i64 (movedX dx dy dz b).lx, .int .i64 (movedX dx dy dz b).ly, .int .i64 (movedX dx dy dz b).lz, .int .i64 (movedX dx dy dz b).hx, .int .i64 (movedX dx dy dz b).hy, .int .i64 (movedX dx dy dz b).hz]), undef, undef, .pointer (some ⟨gt, 1, none⟩), .pointer (some ⟨gt, 2, none⟩), undef, .func (.func 12) #[] #[], (Value.agg #[.int .i64 b.lx, .int .i64 b.ly, .int .i64 b.lz, .int .i64 b.hx, .int .i64 b.hy, .int .i64 b.hz]), (Value.agg #[.int .i64 (turnX b).lx, .int .i64 (turnX b).ly, .int .i64 (turnX b).lz, .int .i64 (turnX b).hx, .int .i64 (turnX b).hy, .int .i64 (turnX b).hz]), undef, undef, .pointer (some ⟨gm, 1, none⟩), .pointer (some ⟨gm, 2, none⟩), undef, .pointer (some ⟨gt, 1, none⟩), .pointer (some ⟨gt, 2, none⟩), undef] [2, 6, 7, 18, 10, 14, 15, 21] (DApp 30 26 6 W3.heap.size W5 (⟨2, 6, 7, 18, gm, 2, (fun v => #[.string q.name, (.slice a1 q.l.length cap1), v, .int .i64 q.cover, .int .i64 q.agg, .int .i64 q.poker]) (.slice a3 k cap3), .slice a3 k cap3, k, boxCells ((q.m.take k).map (movedX dx dy dz)), boxCells [(movedX dx dy dz) b]⟩ : Rw) (⟨10, 14, 15, 21, gt, 2, (fun v => #[.string q.name, (.slice a2 q.l.length cap2), v, .int .i64 q.cover, .int .i64 q.agg, .int .i64 q.poker]) (.slice a4 k cap4), .slice a4 k cap4, k, boxCells ((q.m.take k).map turnX), boxCells [turnX b]⟩ : Rw)) (by kernel_rfl) (by kernel_rfl) ?_ ?_ ?_
            · intro vs hlen
              refine HM5.out.drew ⟨rfl, rfl, rfl, rfl, rfl⟩ ⟨rfl, rfl, rfl, rfl, rfl⟩ (fun k hk => rep_false ?_)
              have hk' : k ∈ ([2, 6, 7, 18, 10, 14, 15, 21] : List Nat) := hk
              simp only [List.mem_cons, List.not_mem_nil, or_false] at hk'
              show k < 22
              omega
            · intro L vs W i hlen hJ hi
              obtain ⟨x0, vs0, rfl, hlen0⟩ := len_cons hlen
              obtain ⟨x1, vs1, rfl, hlen1⟩ := len_cons hlen0
              obtain ⟨x2, vs2, rfl, hlen2⟩ := len_cons hlen1
              obtain ⟨x3, vs3, rfl, hlen3⟩ := len_cons hlen2
              obtain ⟨x4, vs4, rfl, hlen4⟩ := len_cons hlen3
              obtain ⟨x5, vs5, rfl, hlen5⟩ := len_cons hlen4
              obtain ⟨x6, vs6, rfl, hlen6⟩ := len_cons hlen5
              obtain ⟨x7, vs7, rfl, hlen7⟩ := len_cons hlen6
              obtain ⟨x8, vs8, rfl, hlen8⟩ := len_cons hlen7
              obtain ⟨x9, vs9, rfl, hlen9⟩ := len_cons hlen8
              obtain ⟨x10, vs10, rfl, hlen10⟩ := len_cons hlen9
              obtain ⟨x11, vs11, rfl, hlen11⟩ := len_cons hlen10
              obtain ⟨x12, vs12, rfl, hlen12⟩ := len_cons hlen11
              obtain ⟨x13, vs13, rfl, hlen13⟩ := len_cons hlen12
              obtain ⟨x14, vs14, rfl, hlen14⟩ := len_cons hlen13
              obtain ⟨x15, vs15, rfl, hlen15⟩ := len_cons hlen14
              obtain ⟨x16, vs16, rfl, hlen16⟩ := len_cons hlen15
              obtain ⟨x17, vs17, rfl, hlen17⟩ := len_cons hlen16
              obtain ⟨x18, vs18, rfl, hlen18⟩ := len_cons hlen17
              obtain ⟨x19, vs19, rfl, hlen19⟩ := len_cons hlen18
              obtain ⟨x20, vs20, rfl, hlen20⟩ := len_cons hlen19
              obtain ⟨x21, vs21, rfl, hlen21⟩ := len_cons hlen20
              obtain rfl := len_nil hlen21
              clear hlen hlen0 hlen1 hlen2 hlen3 hlen4 hlen5 hlen6 hlen7 hlen8 hlen9 hlen10 hlen11 hlen12 hlen13 hlen14 hlen15 hlen16 hlen17 hlen18 hlen19 hlen20 hlen21
              obtain ⟨hun, o, ho, hd⟩ := mem_ready.1 hi
              have hin : i < 22 := by have := (Array.getElem?_eq_some_iff.1 ho).1; simpa using this
              refine wpOp_free (B := fun a' W' => ∃ x0 x1 x2 x3 x4 x5 x6 x7 x8 x9 x10 x11 x12 x13 x14 x15 x16 x17 x18 x19 x20 x21, a' = putAll _ [x0, x1, x2, x3, x4, x5, x6, x7, x8, x9, x10, x11, x12, x13, x14, x15, x16, x17, x18, x19, x20, x21] _ ∧ InvG _ _ _ [x0, x1, x2, x3, x4, x5, x6, x7, x8, x9, x10, x11, x12, x13, x14, x15, x16, x17, x18, x19, x20, x21] (L.setIfInBounds i true) W') (fun _ _ h => by obtain ⟨x0, x1, x2, x3, x4, x5, x6, x7, x8, x9, x10, x11, x12, x13, x14, x15, x16, x17, x18, x19, x20, x21, h1, h2⟩ := h; exact ⟨[x0, x1, x2, x3, x4, x5, x6, x7, x8, x9, x10, x11, x12, x13, x14, x15, x16, x17, x18, x19, x20, x21], rfl, h1, h2⟩) ?_
              intro K HK
              simp only [putAll_cons, putAll_nil, put_some, put_none, List.setIfInBounds_toArray, List.set_cons_succ, List.set_cons_zero] at HK ⊢
              have HOK := Lib.hid hok
              have HOK2 := Lib.hid hok2
              clear hok hok2
              have hold := HM5.out.old hJ.part ⟨rfl, rfl⟩ ⟨rfl, rfl⟩
              have hb20 := H20.out.1.of_block (hJ.part.frame _ H20.out.1.lt (Nat.ne_of_gt (Nat.lt_of_lt_of_le HM5.out.hg.2 H20.out.2.2.2)) (Nat.ne_of_gt (Nat.lt_of_lt_of_le HM5.out.hg'.2 H20.out.2.2.2)) H20.out.2.1 H20.out.2.2.1)
              have e0 : W.cell? ⟨g20, 0, none⟩ = some (.int .i64 b.lx) := hb20.cell 0
              have e1 : W.cell? ⟨g20, 1, none⟩ = some (.int .i64 b.ly) := hb20.cell 1
              have e2 : W.cell? ⟨g20, 2, none⟩ = some (.int .i64 b.lz) := hb20.cell 2
              have e3 : W.cell? ⟨g20, 3, none⟩ = some (.int .i64 b.hx) := hb20.cell 3
              have e4 : W.cell? ⟨g20, 4, none⟩ = some (.int .i64 b.hy) := hb20.cell 4
              have e5 : W.cell? ⟨g20, 5, none⟩ = some (.int .i64 b.hz) := hb20.cell 5
              have ex : W.cell? ⟨gx, 0, none⟩ = some (.int .i16 dx) := (HMK.out.bx.of_block (hold _ HMK.out.bx.lt)).cell 0
              have eY : W.cell? ⟨gy, 0, none⟩ = some (.int .i16 dy) := (HMK.out.bY.of_block (hold _ HMK.out.bY.lt)).cell 0
              have ez : W.cell? ⟨gz, 0, none⟩ = some (.int .i16 dz) := (HMK.out.bz.of_block (hold _ HMK.out.bz.lt)).cell 0
              clear hold hb20
              rcases (show i = 0 ∨ i = 1 ∨ i = 2 ∨ i = 3 ∨ i = 4 ∨ i = 5 ∨ i = 6 ∨ i = 7 ∨ i = 8 ∨ i = 9 ∨ i = 10 ∨ i = 11 ∨ i = 12 ∨ i = 13 ∨ i = 14 ∨ i = 15 ∨ i = 16 ∨ i = 17 ∨ i = 18 ∨ i = 19 ∨ i = 20 ∨ i = 21 by omega) with rfl | rfl | rfl | rfl | rfl | rfl | rfl | rfl | rfl | rfl | rfl | rfl | rfl | rfl | rfl | rfl | rfl | rfl | rfl | rfl | rfl | rfl
              · obtain rfl := Option.some.inj ho
                refine wpOp_of_list (by rfl) ?_
                go_wp2
                exact HK.out _ _ ⟨_, _, _, _, _, _, _, _, _, _, _, _, _, _, _, _, _, _, _, _, _, _, rfl, hJ.up HPART.out 0 (by decide) (show 0 < 22 by decide) rfl⟩
              · obtain rfl := Option.some.inj ho
                have d0 : x0 = .pointer (some ⟨gm, 1, none⟩) := hJ.val 0 (show 0 < 22 by decide) (by decide) (getD_upJ (hd ⟨0, .data⟩ (by simp) (by rfl)))
                subst d0
                refine wpOp_of_list (by rfl) ?_
                go_wp2
                exact HK.out _ _ ⟨_, _, _, _, _, _, _, _, _, _, _, _, _, _, _, _, _, _, _, _, _, _, rfl, hJ.up HPART.out 1 (by decide) (show 1 < 22 by decide) rfl⟩
              · obtain rfl := Option.some.inj ho
                have d1 : x1 = .pointer (some ⟨gm, 2, none⟩) := hJ.val 1 (show 1 < 22 by decide) (by decide) (getD_upJ (hd ⟨1, .data⟩ (by simp) (by rfl)))
                subst d1
                have hc : W.cell? ⟨gm, 2, none⟩ = some (.slice a3 k cap3) := hJ.part.cell hun (by rfl)
                refine wpOp_of_list (by rfl) ?_
                go_wp2
                exact HK.out _ _ ⟨_, _, _, _, _, _, _, _, _, _, _, _, _, _, _, _, _, _, _, _, _, _, rfl, hJ.spec 2 (by decide) _ ((hJ.part.stepL HOK.out (show 2 < 22 by decide) rfl))⟩
              · obtain rfl := Option.some.inj ho
                refine wpOp_of_list (by rfl) ?_
                go_wp2
                exact HK.out _ _ ⟨_, _, _, _, _, _, _, _, _, _, _, _, _, _, _, _, _, _, _, _, _, _, rfl, hJ.up HPART.out 3 (by decide) (show 3 < 22 by decide) rfl⟩
              · obtain rfl := Option.some.inj ho
                refine wpOp_of_list (by rfl) ?_
                go_wp2
                exact HK.out _ _ ⟨_, _, _, _, _, _, _, _, _, _, _, _, _, _, _, _, _, _, _, _, _, _, rfl, hJ.up HPART.out 4 (by decide) (show 4 < 22 by decide) rfl⟩
              · obtain rfl := Option.some.inj ho
                have d3 : x3 = .func (.func 10) #[] #[.pointer (some ⟨gx, 0, none⟩), .pointer (some ⟨gy, 0, none⟩), .pointer (some ⟨gz, 0, none⟩)] := hJ.val 3 (show 3 < 22 by decide) (by decide) (getD_upJ (hd ⟨3, .data⟩ (by simp) (by rfl)))
                have d4 : x4 = (Value.agg #[.int .i64 b.lx, .int .i64 b.ly, .int .i64 b.lz, .int .i64 b.hx, .int .i64 b.hy, .int .i64 b.hz]) := hJ.val 4 (show 4 < 22 by decide) (by decide) (getD_upJ (hd ⟨4, .data⟩ (by simp) (by rfl)))
                subst d3 d4
                refine wpOp_of_list (by rfl) ?_
                go_wp2_with fail
                go_at_call 10; refine (move18_c b dx dy dz HVB.out HX.out.1 HX.out.2.1 HX.out.2.2 gx gy gz W ex eY ez).mono ?_; rintro e w' ⟨rfl, xq, rfl⟩
                go_wp2
                exact HK.out _ _ ⟨_, _, _, _, _, _, _, _, _, _, _, _, _, _, _, _, _, _, _, _, _, _, rfl, (hJ.grow HPART.out _).up HPART.out 5 (by decide) (show 5 < 22 by decide) rfl⟩
              · obtain rfl := Option.some.inj ho
                have d5 : x5 = (Value.agg #[.int .i64 (movedX dx dy dz b).lx, .int .i64 (movedX dx dy dz b).ly, .int .i64 (movedX dx dy dz b).lz, .int .i64 (movedX dx dy dz b).hx, .int .i64 (movedX dx dy dz b).hy, .int .i64 (movedX dx dy dz b).hz]) := hJ.val 5 (show 5 < 22 by decide) (by decide) (getD_upJ (hd ⟨5, .data⟩ (by simp) (by rfl)))
                subst d5
                refine wpOp_of_list (by rfl) ?_
                go_wp2
                exact HK.out _ _ ⟨_, _, _, _, _, _, _, _, _, _, _, _, _, _, _, _, _, _, _, _, _, _, rfl, hJ.spec 6 (by decide) _ ((hJ.part.stepB HOK.out (show 6 < 22 by decide) rfl rfl))⟩
              · obtain rfl := Option.some.inj ho
                have hkl := (getD_upJ (hd ⟨2, .data⟩ (by simp) (by rfl)))
                have dl : x2 = .slice a3 k cap3 := hJ.part.r1.load hkl
                obtain ⟨gl, hl1, hl2, hl3⟩ := hJ.part.r1.lit (getD_upJ (hd ⟨6, .data⟩ (by simp) (by rfl)))
                have hl4 : x6 = .slice (some ⟨gl, 0, none⟩) 1 1 := hl1
                have hrow := hJ.part.r1.row0 hun
                subst dl hl4
                refine wpOp_of_list (by rfl) ?_
                refine app_own_w2 rfl _ _ 22 rfl 30 (.agg #[.int .i64 0, .int .i64 0, .int .i64 0, .int .i64 0, .int .i64 0, .int .i64 0]) 6 48 Try.underlying22 info_box' rfl (by decide) W3.heap.size (.slice a3 k cap3) k _ _ rfl hrow gl 1 1 _ rfl (by rfl) hl3 (boxCells_one _) (by have := HLN.out; omega) (by decide) (by have := HM5.out.size_le hJ.part; omega) ?_
                intro u' w' hown hg hw
                go_wp2
                exact HK.out _ _ ⟨_, _, _, _, _, _, _, _, _, _, _, _, _, _, _, _, _, _, _, _, _, _, rfl, hJ.spec 7 (by decide) _ ((hJ.part.stepA HOK.out (show 7 < 22 by decide) (by decide) hun hkl hown hg hw))⟩
              · obtain rfl := Option.some.inj ho
                refine wpOp_of_list (by rfl) ?_
                go_wp2
                exact HK.out _ _ ⟨_, _, _, _, _, _, _, _, _, _, _, _, _, _, _, _, _, _, _, _, _, _, rfl, hJ.up HPART.out 8 (by decide) (show 8 < 22 by decide) rfl⟩
              · obtain rfl := Option.some.inj ho
                have d8 : x8 = .pointer (some ⟨gt, 1, none⟩) := hJ.val 8 (show 8 < 22 by decide) (by decide) (getD_upJ (hd ⟨8, .data⟩ (by simp) (by rfl)))
                subst d8
                refine wpOp_of_list (by rfl) ?_
                go_wp2
                exact HK.out _ _ ⟨_, _, _, _, _, _, _, _, _, _, _, _, _, _, _, _, _, _, _, _, _, _, rfl, hJ.up HPART.out 9 (by decide) (show 9 < 22 by decide) rfl⟩
              · obtain rfl := Option.some.inj ho
                have d9 : x9 = .pointer (some ⟨gt, 2, none⟩) := hJ.val 9 (show 9 < 22 by decide) (by decide) (getD_upJ (hd ⟨9, .data⟩ (by simp) (by rfl)))
                subst d9
                have hc : W.cell? ⟨gt, 2, none⟩ = some (.slice a4 k cap4) := hJ.part.swap.cell hun (by rfl)
                refine wpOp_of_list (by rfl) ?_
                go_wp2
                exact HK.out _ _ ⟨_, _, _, _, _, _, _, _, _, _, _, _, _, _, _, _, _, _, _, _, _, _, rfl, hJ.spec 10 (by decide) _ ((hJ.part.swap.stepL HOK2.out (show 10 < 22 by decide) rfl).swap)⟩
              · obtain rfl := Option.some.inj ho
                refine wpOp_of_list (by rfl) ?_
                go_wp2
                exact HK.out _ _ ⟨_, _, _, _, _, _, _, _, _, _, _, _, _, _, _, _, _, _, _, _, _, _, rfl, hJ.up HPART.out 11 (by decide) (show 11 < 22 by decide) rfl⟩
              · obtain rfl := Option.some.inj ho
                refine wpOp_of_list (by rfl) ?_
                go_wp2
                exact HK.out _ _ ⟨_, _, _, _, _, _, _, _, _, _, _, _, _, _, _, _, _, _, _, _, _, _, rfl, hJ.up HPART.out 12 (by decide) (show 12 < 22 by decide) rfl⟩
              · obtain rfl := Option.some.inj ho
                have d11 : x11 = .func (.func 12) #[] #[] := hJ.val 11 (show 11 < 22 by decide) (by decide) (getD_upJ (hd ⟨11, .data⟩ (by simp) (by rfl)))
                have d12 : x12 = (Value.agg #[.int .i64 b.lx, .int .i64 b.ly, .int .i64 b.lz, .int .i64 b.hx, .int .i64 b.hy, .int .i64 b.hz]) := hJ.val 12 (show 12 < 22 by decide) (by decide) (getD_upJ (hd ⟨12, .data⟩ (by simp) (by rfl)))
                subst d11 d12
                refine wpOp_of_list (by rfl) ?_
                go_wp2_with fail
                go_at_call 12; refine (turn18_c b HVB.out _).mono ?_; rintro e w' ⟨rfl, xq, rfl⟩
                go_wp2
                exact HK.out _ _ ⟨_, _, _, _, _, _, _, _, _, _, _, _, _, _, _, _, _, _, _, _, _, _, rfl, (hJ.grow HPART.out _).up HPART.out 13 (by decide) (show 13 < 22 by decide) rfl⟩
              · obtain rfl := Option.some.inj ho
                have d13 : x13 = (Value.agg #[.int .i64 (turnX b).lx, .int .i64 (turnX b).ly, .int .i64 (turnX b).lz, .int .i64 (turnX b).hx, .int .i64 (turnX b).hy, .int .i64 (turnX b).hz]) := hJ.val 13 (show 13 < 22 by decide) (by decide) (getD_upJ (hd ⟨13, .data⟩ (by simp) (by rfl)))
                subst d13
                refine wpOp_of_list (by rfl) ?_
                go_wp2
                exact HK.out _ _ ⟨_, _, _, _, _, _, _, _, _, _, _, _, _, _, _, _, _, _, _, _, _, _, rfl, hJ.spec 14 (by decide) _ ((hJ.part.swap.stepB HOK2.out (show 14 < 22 by decide) rfl rfl).swap)⟩
              · obtain rfl := Option.some.inj ho
                have hkl := (getD_upJ (hd ⟨10, .data⟩ (by simp) (by rfl)))
                have dl : x10 = .slice a4 k cap4 := hJ.part.swap.r1.load hkl
                obtain ⟨gl, hl1, hl2, hl3⟩ := hJ.part.swap.r1.lit (getD_upJ (hd ⟨14, .data⟩ (by simp) (by rfl)))
                have hl4 : x14 = .slice (some ⟨gl, 0, none⟩) 1 1 := hl1
                have hrow := hJ.part.swap.r1.row0 hun
                subst dl hl4
                refine wpOp_of_list (by rfl) ?_
                refine app_own_w2 rfl _ _ 22 rfl 30 (.agg #[.int .i64 0, .int .i64 0, .int .i64 0, .int .i64 0, .int .i64 0, .int .i64 0]) 6 48 Try.underlying22 info_box' rfl (by decide) W3.heap.size (.slice a4 k cap4) k _ _ rfl hrow gl 1 1 _ rfl (by rfl) hl3 (boxCells_one _) (by have := HLN.out; omega) (by decide) (by have := HM5.out.size_le hJ.part; omega) ?_
                intro u' w' hown hg hw
                go_wp2
                exact HK.out _ _ ⟨_, _, _, _, _, _, _, _, _, _, _, _, _, _, _, _, _, _, _, _, _, _, rfl, hJ.spec 15 (by decide) _ ((hJ.part.swap.stepA HOK2.out (show 15 < 22 by decide) (by decide) hun hkl hown hg hw).swap)⟩
              · obtain rfl := Option.some.inj ho
                refine wpOp_of_list (by rfl) ?_
                go_wp2
                exact HK.out _ _ ⟨_, _, _, _, _, _, _, _, _, _, _, _, _, _, _, _, _, _, _, _, _, _, rfl, hJ.up HPART.out 16 (by decide) (show 16 < 22 by decide) rfl⟩
              · obtain rfl := Option.some.inj ho
                have d16 : x16 = .pointer (some ⟨gm, 1, none⟩) := hJ.val 16 (show 16 < 22 by decide) (by decide) (getD_upJ (hd ⟨16, .data⟩ (by simp) (by rfl)))
                subst d16
                refine wpOp_of_list (by rfl) ?_
                go_wp2
                exact HK.out _ _ ⟨_, _, _, _, _, _, _, _, _, _, _, _, _, _, _, _, _, _, _, _, _, _, rfl, hJ.up HPART.out 17 (by decide) (show 17 < 22 by decide) rfl⟩
              · obtain rfl := Option.some.inj ho
                have d17 : x17 = .pointer (some ⟨gm, 2, none⟩) := hJ.val 17 (show 17 < 22 by decide) (by decide) (getD_upJ (hd ⟨17, .data⟩ (by simp) (by rfl)))
                subst d17
                have hka := (getD_upJ (hd ⟨7, .data⟩ (by simp) (by rfl)))
                have hb := hJ.part.r1.blk0 hun
                have qf : W.frozen? ⟨gm, 2, none⟩ = false := hb.frozen 2
                have qg : W.cell? ⟨gm, 2, none⟩ = some (.slice a3 k cap3) := (hb.cell 2).trans rfl
                obtain ⟨au, cu, hx1, -, -, -⟩ := own_shape (hJ.part.r1.row1 hka)
                have hx2 : x7 = .slice au (k + 1) cu := hx1
                subst hx2
                refine wpOp_of_list (by rfl) ?_
                go_wp2
                exact HK.out _ _ ⟨_, _, _, _, _, _, _, _, _, _, _, _, _, _, _, _, _, _, _, _, _, _, rfl, hJ.spec0 18 (by decide) ((hJ.part.stepS HOK.out (by decide) hun hka rfl rfl))⟩
              · obtain rfl := Option.some.inj ho
                refine wpOp_of_list (by rfl) ?_
                go_wp2
                exact HK.out _ _ ⟨_, _, _, _, _, _, _, _, _, _, _, _, _, _, _, _, _, _, _, _, _, _, rfl, hJ.up HPART.out 19 (by decide) (show 19 < 22 by decide) rfl⟩
              · obtain rfl := Option.some.inj ho
                have d19 : x19 = .pointer (some ⟨gt, 1, none⟩) := hJ.val 19 (show 19 < 22 by decide) (by decide) (getD_upJ (hd ⟨19, .data⟩ (by simp) (by rfl)))
                subst d19
                refine wpOp_of_list (by rfl) ?_
                go_wp2
                exact HK.out _ _ ⟨_, _, _, _, _, _, _, _, _, _, _, _, _, _, _, _, _, _, _, _, _, _, rfl, hJ.up HPART.out 20 (by decide) (show 20 < 22 by decide) rfl⟩
              · obtain rfl := Option.some.inj ho
                have d20 : x20 = .pointer (some ⟨gt, 2, none⟩) := hJ.val 20 (show 20 < 22 by decide) (by decide) (getD_upJ (hd ⟨20, .data⟩ (by simp) (by rfl)))
                subst d20
                have hka := (getD_upJ (hd ⟨15, .data⟩ (by simp) (by rfl)))
                have hb := hJ.part.swap.r1.blk0 hun
                have qf : W.frozen? ⟨gt, 2, none⟩ = false := hb.frozen 2
                have qg : W.cell? ⟨gt, 2, none⟩ = some (.slice a4 k cap4) := (hb.cell 2).trans rfl
                obtain ⟨au, cu, hx1, -, -, -⟩ := own_shape (hJ.part.swap.r1.row1 hka)
                have hx2 : x15 = .slice au (k + 1) cu := hx1
                subst hx2
                refine wpOp_of_list (by rfl) ?_
                go_wp2
                exact HK.out _ _ ⟨_, _, _, _, _, _, _, _, _, _, _, _, _, _, _, _, _, _, _, _, _, _, rfl, hJ.spec0 21 (by decide) ((hJ.part.swap.stepS HOK2.out (by decide) hun hka rfl rfl).swap)⟩
            · intro vs L W hlen hJ hall
              obtain ⟨x0, vs0, rfl, hlen0⟩ := len_cons hlen
              obtain ⟨x1, vs1, rfl, hlen1⟩ := len_cons hlen0
              obtain ⟨x2, vs2, rfl, hlen2⟩ := len_cons hlen1
              obtain ⟨x3, vs3, rfl, hlen3⟩ := len_cons hlen2
              obtain ⟨x4, vs4, rfl, hlen4⟩ := len_cons hlen3
              obtain ⟨x5, vs5, rfl, hlen5⟩ := len_cons hlen4
              obtain ⟨x6, vs6, rfl, hlen6⟩ := len_cons hlen5
              obtain ⟨x7, vs7, rfl, hlen7⟩ := len_cons hlen6
              obtain ⟨x8, vs8, rfl, hlen8⟩ := len_cons hlen7
              obtain ⟨x9, vs9, rfl, hlen9⟩ := len_cons hlen8
              obtain ⟨x10, vs10, rfl, hlen10⟩ := len_cons hlen9
              obtain ⟨x11, vs11, rfl, hlen11⟩ := len_cons hlen10
              obtain ⟨x12, vs12, rfl, hlen12⟩ := len_cons hlen11
              obtain ⟨x13, vs13, rfl, hlen13⟩ := len_cons hlen12
              obtain ⟨x14, vs14, rfl, hlen14⟩ := len_cons hlen13
              obtain ⟨x15, vs15, rfl, hlen15⟩ := len_cons hlen14
              obtain ⟨x16, vs16, rfl, hlen16⟩ := len_cons hlen15
              obtain ⟨x17, vs17, rfl, hlen17⟩ := len_cons hlen16
              obtain ⟨x18, vs18, rfl, hlen18⟩ := len_cons hlen17
              obtain ⟨x19, vs19, rfl, hlen19⟩ := len_cons hlen18
              obtain ⟨x20, vs20, rfl, hlen20⟩ := len_cons hlen19
              obtain ⟨x21, vs21, rfl, hlen21⟩ := len_cons hlen20
              obtain rfl := len_nil hlen21
              clear hlen hlen0 hlen1 hlen2 hlen3 hlen4 hlen5 hlen6 hlen7 hlen8 hlen9 hlen10 hlen11 hlen12 hlen13 hlen14 hlen15 hlen16 hlen17 hlen18 hlen19 hlen20 hlen21
              have d0 : x0 = .pointer (some ⟨gm, 1, none⟩) := hJ.val 0 (show 0 < 22 by decide) (by decide) (hall 0 (of_decide_eq_true (by kernel_rfl)))
              have d1 : x1 = .pointer (some ⟨gm, 2, none⟩) := hJ.val 1 (show 1 < 22 by decide) (by decide) (hall 1 (of_decide_eq_true (by kernel_rfl)))
              have d3 : x3 = .func (.func 10) #[] #[.pointer (some ⟨gx, 0, none⟩), .pointer (some ⟨gy, 0, none⟩), .pointer (some ⟨gz, 0, none⟩)] := hJ.val 3 (show 3 < 22 by decide) (by decide) (hall 3 (of_decide_eq_true (by kernel_rfl)))
              have d4 : x4 = (Value.agg #[.int .i64 b.lx, .int .i64 b.ly, .int .i64 b.lz, .int .i64 b.hx, .int .i64 b.hy, .int .i64 b.hz]) := hJ.val 4 (show 4 < 22 by decide) (by decide) (hall 4 (of_decide_eq_true (by kernel_rfl)))
              have d5 : x5 = (Value.agg #[.int .i64 (movedX dx dy dz b).lx, .int .i64 (movedX dx dy dz b).ly, .int .i64 (movedX dx dy dz b).lz, .int .i64 (movedX dx dy dz b).hx, .int .i64 (movedX dx dy dz b).hy, .int .i64 (movedX dx dy dz b).hz]) := hJ.val 5 (show 5 < 22 by decide) (by decide) (hall 5 (of_decide_eq_true (by kernel_rfl)))
              have d8 : x8 = .pointer (some ⟨gt, 1, none⟩) := hJ.val 8 (show 8 < 22 by decide) (by decide) (hall 8 (of_decide_eq_true (by kernel_rfl)))
              have d9 : x9 = .pointer (some ⟨gt, 2, none⟩) := hJ.val 9 (show 9 < 22 by decide) (by decide) (hall 9 (of_decide_eq_true (by kernel_rfl)))
              have d11 : x11 = .func (.func 12) #[] #[] := hJ.val 11 (show 11 < 22 by decide) (by decide) (hall 11 (of_decide_eq_true (by kernel_rfl)))
              have d12 : x12 = (Value.agg #[.int .i64 b.lx, .int .i64 b.ly, .int .i64 b.lz, .int .i64 b.hx, .int .i64 b.hy, .int .i64 b.hz]) := hJ.val 12 (show 12 < 22 by decide) (by decide) (hall 12 (of_decide_eq_true (by kernel_rfl)))
              have d13 : x13 = (Value.agg #[.int .i64 (turnX b).lx, .int .i64 (turnX b).ly, .int .i64 (turnX b).lz, .int .i64 (turnX b).hx, .int .i64 (turnX b).hy, .int .i64 (turnX b).hz]) := hJ.val 13 (show 13 < 22 by decide) (by decide) (hall 13 (of_decide_eq_true (by kernel_rfl)))
              have d16 : x16 = .pointer (some ⟨gm, 1, none⟩) := hJ.val 16 (show 16 < 22 by decide) (by decide) (hall 16 (of_decide_eq_true (by kernel_rfl)))
              have d17 : x17 = .pointer (some ⟨gm, 2, none⟩) := hJ.val 17 (show 17 < 22 by decide) (by decide) (hall 17 (of_decide_eq_true (by kernel_rfl)))
              have d19 : x19 = .pointer (some ⟨gt, 1, none⟩) := hJ.val 19 (show 19 < 22 by decide) (by decide) (hall 19 (of_decide_eq_true (by kernel_rfl)))
              have d20 : x20 = .pointer (some ⟨gt, 2, none⟩) := hJ.val 20 (show 20 < 22 by decide) (by decide) (hall 20 (of_decide_eq_true (by kernel_rfl)))
              subst d0 d1 d3 d4 d5 d8 d9 d11 d12 d13 d16 d17 d19 d20
              have hN := HM5.out.next hlt hJ.part ⟨rfl, rfl, rfl, rfl, rfl, by show boxCells [movedX dx dy dz b] = _; rw [HB.out]⟩ ⟨rfl, rfl, rfl, rfl, rfl, by show boxCells [turnX b] = _; rw [HB.out]⟩ (fun _ => rfl) (fun _ => rfl) (hall 18 (of_decide_eq_true (by kernel_rfl))) (hall 7 (of_decide_eq_true (by kernel_rfl))) (hall 21 (of_decide_eq_true (by kernel_rfl))) (hall 15 (of_decide_eq_true (by kernel_rfl)))
              have HNX := Lib.hid hN
              clear hN hJ hall hok hok2
              simp only [putAll_cons, putAll_nil, put_some, put_none, List.setIfInBounds_toArray, List.set_cons_succ, List.set_cons_zero]
              have hln := HLN.out.2
              go_wp2
              go_roundw
              case rel => exact ⟨k + 1, x7, x15, by omega, by go_num, HNX.out⟩
              case measure => simp [intOf]; omega
          · obtain rfl : k = q.m.length := by omega
            have R1 := HM1.out.r1
            have R2 := HM1.out.r2
            rw [List.take_length] at R1 R2
            have hE : MvE q (movedX dx dy dz) gm gt (.slice a1 q.l.length cap1) (.slice a3 q.m.length cap3) (.slice a2 q.l.length cap2) (.slice a4 q.m.length cap4) wr := ⟨HM2.out.b1, HM2.out.b2, HM2.out.boxes R1 (List.length_map _).symm (HM1.out.b1.ne_row R1 (by decide)) (HM1.out.b2.ne_row R1 (by decide)), HM2.out.row1, HM2.out.boxes R2 (List.length_map _).symm (HM1.out.b1.ne_row R2 (by decide)) (HM1.out.b2.ne_row R2 (by decide)), HM2.out.row2⟩
            have hKE := HMK.out.move HM2.out.below
            have HKE := Lib.hid (And.intro hKE hE)
            clear hKE hE R1 R2 hM hlt hk c62
            go_upto_region 22 with fail
            refine world_mask (fun W => MvK w (.slice ua q.l.length uc) (.slice ta q.m.length tc) g8 gx gy gz g13 q leg dx dy dz s0 s1 s2 s3 s4 s5 W ∧ MvE q (movedX dx dy dz) gm gt (.slice a1 q.l.length cap1) (.slice a3 q.m.length cap3) (.slice a2 q.l.length cap2) (.slice a4 q.m.length cap4) W) _ HKE.out ?_
            clear HKE HM1 HM2 HMK
            rintro W5 hke
            have HKE := Lib.hid hke
            clear hke
            have hok : mkOk [9, 10] [⟨9, 10, 39, #[.int .i64 n0, .int .i64 n1, .int .i64 n2, .int .i64 n3, .int .i64 n4, .int .i64 n5]⟩] := mkOk_one (by decide)
            refine wp_region_M [(.agg #[.string q.name, (.slice a1 q.l.length cap1), (.slice a3 q.m.length cap3), .int .i64 q.cover, .int .i64 q.agg, .int .i64 q.poker]), .int .i64 d, .func (.func 10) #[] #[.pointer (some ⟨gx, 0, none⟩), .pointer (some ⟨gy, 0, none⟩), .pointer (some ⟨gz, 0, none⟩)], (Value.agg #[.int .i64 leg.lx, .int .i64 leg.ly, .int .i64 leg.lz, .int .i64 leg.hx, .int .i64 leg.hy, .int .i64 leg.hz]), (Value.agg #[.int .i64 (movedX dx dy dz leg).lx, .int .i64 (movedX dx dy dz leg).ly, .int .i64 (movedX dx dy dz leg).lz, .int .i64 (movedX dx dy dz leg).hx, .int .i64 (movedX dx dy dz leg).hy, .int .i64 (movedX dx dy dz leg).hz]), (.tuple #[.agg #[.int .i64 n0, .int .i64 n1, .int .i64 n2, .int .i64 n3, .int .i64 n4, .int .i64 n5], .int .i64 F]), (.tuple #[.agg #[.int .i64 n0, .int .i64 n1, .int .i64 n2, .int .i64 n3, .int .i64 n4, .int .i64 n5], .int .i64 F]), (.agg #[.int .i64 n0, .int .i64 n1, .int .i64 n2, .int .i64 n3, .int .i64 n4, .int .i64 n5]), .int .i64 F, undef, undef, .int .i64 F] [9, 10] [⟨9, 10, 39, #[.int .i64 n0, .int .i64 n1, .int .i64 n2, .int .i64 n3, .int .i64 n4, .int .i64 n5]⟩] (by kernel_rfl) (by kernel_rfl) ?_ ?_ ?_
            · intro b hb
              simp only [List.mem_cons, List.not_mem_nil, or_false] at hb
              rcases hb with rfl
              all_goals exact ⟨of_decide_eq_true (by kernel_rfl), of_decide_eq_true (by kernel_rfl)⟩
            · intro L vs W i hlen hJ hi
              obtain ⟨x0, vs0, rfl, hlen0⟩ := len_cons hlen
              obtain ⟨x1, vs1, rfl, hlen1⟩ := len_cons hlen0
              obtain ⟨x2, vs2, rfl, hlen2⟩ := len_cons hlen1
              obtain ⟨x3, vs3, rfl, hlen3⟩ := len_cons hlen2
              obtain ⟨x4, vs4, rfl, hlen4⟩ := len_cons hlen3
              obtain ⟨x5, vs5, rfl, hlen5⟩ := len_cons hlen4
              obtain ⟨x6, vs6, rfl, hlen6⟩ := len_cons hlen5
              obtain ⟨x7, vs7, rfl, hlen7⟩ := len_cons hlen6
              obtain ⟨x8, vs8, rfl, hlen8⟩ := len_cons hlen7
              obtain ⟨x9, vs9, rfl, hlen9⟩ := len_cons hlen8
              obtain ⟨x10, vs10, rfl, hlen10⟩ := len_cons hlen9
              obtain ⟨x11, vs11, rfl, hlen11⟩ := len_cons hlen10
              obtain rfl := len_nil hlen11
              clear hlen hlen0 hlen1 hlen2 hlen3 hlen4 hlen5 hlen6 hlen7 hlen8 hlen9 hlen10 hlen11
              obtain ⟨hun, o, ho, hd⟩ := mem_ready.1 hi
              have hin : i < 12 := by have := (Array.getElem?_eq_some_iff.1 ho).1; simpa using this
              refine wpOp_free (B := fun a' W' => ∃ x0 x1 x2 x3 x4 x5 x6 x7 x8 x9 x10 x11, a' = putAll _ [x0, x1, x2, x3, x4, x5, x6, x7, x8, x9, x10, x11] _ ∧ InvM _ _ _ _ [x0, x1, x2, x3, x4, x5, x6, x7, x8, x9, x10, x11] (L.setIfInBounds i true) W') (fun _ _ h => by obtain ⟨x0, x1, x2, x3, x4, x5, x6, x7, x8, x9, x10, x11, h1, h2⟩ := h; exact ⟨[x0, x1, x2, x3, x4, x5, x6, x7, x8, x9, x10, x11], rfl, h1, h2⟩) ?_
              intro K HK
              simp only [putAll_cons, putAll_nil, put_some, put_none, List.setIfInBounds_toArray, List.set_cons_succ, List.set_cons_zero] at HK ⊢
              have HOK := Lib.hid hok
              clear hok
              have hmk := HKE.out.1.move hJ.below
              have hme := HKE.out.2.move hJ.below
              have m0 : W.cell? ⟨gm, 0, none⟩ = some (.string q.name) := hme.b1.cell 0
              have m1 : W.cell? ⟨gm, 1, none⟩ = some ((.slice a1 q.l.length cap1)) := hme.b1.cell 1
              have m2 : W.cell? ⟨gm, 2, none⟩ = some ((.slice a3 q.m.length cap3)) := hme.b1.cell 2
              have m3 : W.cell? ⟨gm, 3, none⟩ = some (.int .i64 q.cover) := hme.b1.cell 3
              have m4 : W.cell? ⟨gm, 4, none⟩ = some (.int .i64 q.agg) := hme.b1.cell 4
              have m5 : W.cell? ⟨gm, 5, none⟩ = some (.int .i64 q.poker) := hme.b1.cell 5
              have l0 : W.cell? ⟨g8, 0, none⟩ = some (.int .i64 leg.lx) := hmk.b8.cell 0
              have l1 : W.cell? ⟨g8, 1, none⟩ = some (.int .i64 leg.ly) := hmk.b8.cell 1
              have l2 : W.cell? ⟨g8, 2, none⟩ = some (.int .i64 leg.lz) := hmk.b8.cell 2
              have l3 : W.cell? ⟨g8, 3, none⟩ = some (.int .i64 leg.hx) := hmk.b8.cell 3
              have l4 : W.cell? ⟨g8, 4, none⟩ = some (.int .i64 leg.hy) := hmk.b8.cell 4
              have l5 : W.cell? ⟨g8, 5, none⟩ = some (.int .i64 leg.hz) := hmk.b8.cell 5
              have ex : W.cell? ⟨gx, 0, none⟩ = some (.int .i16 dx) := hmk.bx.cell 0
              have eY : W.cell? ⟨gy, 0, none⟩ = some (.int .i16 dy) := hmk.bY.cell 0
              have ez : W.cell? ⟨gz, 0, none⟩ = some (.int .i16 dz) := hmk.bz.cell 0
              rcases (show i = 0 ∨ i = 1 ∨ i = 2 ∨ i = 3 ∨ i = 4 ∨ i = 5 ∨ i = 6 ∨ i = 7 ∨ i = 8 ∨ i = 9 ∨ i = 10 ∨ i = 11 by omega) with rfl | rfl | rfl | rfl | rfl | rfl | rfl | rfl | rfl | rfl | rfl | rfl
              · obtain rfl := Option.some.inj ho
                refine wpOp_of_list (by rfl) ?_
                go_wp2
                exact HK.out _ _ ⟨_, _, _, _, _, _, _, _, _, _, _, _, rfl, hJ.up HOK.out 0 (by decide) (show 0 < 12 by decide) rfl⟩
              · obtain rfl := Option.some.inj ho
                refine wpOp_of_list (by rfl) ?_
                go_wp2
                exact HK.out _ _ ⟨_, _, _, _, _, _, _, _, _, _, _, _, rfl, hJ.up HOK.out 1 (by decide) (show 1 < 12 by decide) rfl⟩
              · obtain rfl := Option.some.inj ho
                refine wpOp_of_list (by rfl) ?_
                go_wp2
                exact HK.out _ _ ⟨_, _, _, _, _, _, _, _, _, _, _, _, rfl, hJ.up HOK.out 2 (by decide) (show 2 < 12 by decide) rfl⟩
              · obtain rfl := Option.some.inj ho
                refine wpOp_of_list (by rfl) ?_
                go_wp2
                exact HK.out _ _ ⟨_, _, _, _, _, _, _, _, _, _, _, _, rfl, hJ.up HOK.out 3 (by decide) (show 3 < 12 by decide) rfl⟩
              · obtain rfl := Option.some.inj ho
                have d2 : x2 = .func (.func 10) #[] #[.pointer (some ⟨gx, 0, none⟩), .pointer (some ⟨gy, 0, none⟩), .pointer (some ⟨gz, 0, none⟩)] := hJ.val 2 (show 2 < 12 by decide) (by decide) (getD_upJ (hd ⟨2, .data⟩ (by simp) (by rfl)))
                have d3 : x3 = (Value.agg #[.int .i64 leg.lx, .int .i64 leg.ly, .int .i64 leg.lz, .int .i64 leg.hx, .int .i64 leg.hy, .int .i64 leg.hz]) := hJ.val 3 (show 3 < 12 by decide) (by decide) (getD_upJ (hd ⟨3, .data⟩ (by simp) (by rfl)))
                subst d2 d3
                refine wpOp_of_list (by rfl) ?_
                go_wp2_with fail
                go_at_call 10; refine (move18_c leg dx dy dz HVG.out HX.out.1 HX.out.2.1 HX.out.2.2 gx gy gz W ex eY ez).mono ?_; rintro e w' ⟨rfl, xq, rfl⟩
                go_wp2
                exact HK.out _ _ ⟨_, _, _, _, _, _, _, _, _, _, _, _, rfl, (hJ.grow _).up HOK.out 4 (by decide) (show 4 < 12 by decide) rfl⟩
              · obtain rfl := Option.some.inj ho
                have d0 : x0 = (.agg #[.string q.name, (.slice a1 q.l.length cap1), (.slice a3 q.m.length cap3), .int .i64 q.cover, .int .i64 q.agg, .int .i64 q.poker]) := hJ.val 0 (show 0 < 12 by decide) (by decide) (getD_upJ (hd ⟨0, .data⟩ (by simp) (by rfl)))
                have d1 : x1 = .int .i64 d := hJ.val 1 (show 1 < 12 by decide) (by decide) (getD_upJ (hd ⟨1, .data⟩ (by simp) (by rfl)))
                have d4 : x4 = (Value.agg #[.int .i64 (movedX dx dy dz leg).lx, .int .i64 (movedX dx dy dz leg).ly, .int .i64 (movedX dx dy dz leg).lz, .int .i64 (movedX dx dy dz leg).hx, .int .i64 (movedX dx dy dz leg).hy, .int .i64 (movedX dx dy dz leg).hz]) := hJ.val 4 (show 4 < 12 by decide) (by decide) (getD_upJ (hd ⟨4, .data⟩ (by simp) (by rfl)))
                subst d0 d1 d4
                refine wpOp_of_list (by rfl) ?_
                go_wp2_with fail
                go_at_call 9; refine (HSM.out _ _ _ hme.u1 hme.t1 HN.out).mono ?_; rintro e w' ⟨rfl, xq, rfl⟩
                go_wp2
                exact HK.out _ _ ⟨_, _, _, _, _, _, _, _, _, _, _, _, rfl, (hJ.grow _).up HOK.out 5 (by decide) (show 5 < 12 by decide) rfl⟩
              · obtain rfl := Option.some.inj ho
                have d5 : x5 = (.tuple #[.agg #[.int .i64 n0, .int .i64 n1, .int .i64 n2, .int .i64 n3, .int .i64 n4, .int .i64 n5], .int .i64 F]) := hJ.val 5 (show 5 < 12 by decide) (by decide) (getD_upJ (hd ⟨5, .data⟩ (by simp) (by rfl)))
                subst d5
                refine wpOp_of_list (by rfl) ?_
                go_wp2
                exact HK.out _ _ ⟨_, _, _, _, _, _, _, _, _, _, _, _, rfl, hJ.up HOK.out 6 (by decide) (show 6 < 12 by decide) rfl⟩
              · obtain rfl := Option.some.inj ho
                have d6 : x6 = (.tuple #[.agg #[.int .i64 n0, .int .i64 n1, .int .i64 n2, .int .i64 n3, .int .i64 n4, .int .i64 n5], .int .i64 F]) := hJ.val 6 (show 6 < 12 by decide) (by decide) (getD_upJ (hd ⟨6, .data⟩ (by simp) (by rfl)))
                subst d6
                refine wpOp_of_list (by rfl) ?_
                go_wp2
                exact HK.out _ _ ⟨_, _, _, _, _, _, _, _, _, _, _, _, rfl, hJ.up HOK.out 7 (by decide) (show 7 < 12 by decide) rfl⟩
              · obtain rfl := Option.some.inj ho
                have d6 : x6 = (.tuple #[.agg #[.int .i64 n0, .int .i64 n1, .int .i64 n2, .int .i64 n3, .int .i64 n4, .int .i64 n5], .int .i64 F]) := hJ.val 6 (show 6 < 12 by decide) (by decide) (getD_upJ (hd ⟨6, .data⟩ (by simp) (by rfl)))
                subst d6
                refine wpOp_of_list (by rfl) ?_
                go_wp2
                exact HK.out _ _ ⟨_, _, _, _, _, _, _, _, _, _, _, _, rfl, hJ.up HOK.out 8 (by decide) (show 8 < 12 by decide) rfl⟩
              · obtain rfl := Option.some.inj ho
                refine wpOp_of_list (by rfl) ?_
                go_wp2
                exact HK.out _ _ ⟨_, _, _, _, _, _, _, _, _, _, _, _, rfl, hJ.make HOK.out ⟨9, 10, 39, #[.int .i64 n0, .int .i64 n1, .int .i64 n2, .int .i64 n3, .int .i64 n4, .int .i64 n5]⟩ (by simp) (show 9 < 12 by decide) hun #[.int .i64 0, .int .i64 0, .int .i64 0, .int .i64 0, .int .i64 0, .int .i64 0] rfl rfl⟩
              · obtain rfl := Option.some.inj ho
                have d7 : x7 = (.agg #[.int .i64 n0, .int .i64 n1, .int .i64 n2, .int .i64 n3, .int .i64 n4, .int .i64 n5]) := hJ.val 7 (show 7 < 12 by decide) (by decide) (getD_upJ (hd ⟨7, .data⟩ (by simp) (by rfl)))
                have hka := getD_upJ (hd ⟨9, .data⟩ (by simp) (by rfl))
                obtain ⟨gq, hs, hg, cs, hcs, hb, -⟩ := hJ.made ⟨9, 10, 39, #[.int .i64 n0, .int .i64 n1, .int .i64 n2, .int .i64 n3, .int .i64 n4, .int .i64 n5]⟩ (by simp) hka
                have hs2 : x9 = .pointer (some ⟨gq, 0, none⟩) := hs
                obtain ⟨qa0, qh0⟩ : ∃ a, cs[0]? = some a := ⟨_, Array.getElem?_eq_getElem (by rw [hcs]; exact (show 0 < 6 by decide))⟩
                obtain ⟨qa1, qh1⟩ : ∃ a, cs[1]? = some a := ⟨_, Array.getElem?_eq_getElem (by rw [hcs]; exact (show 1 < 6 by decide))⟩
                obtain ⟨qa2, qh2⟩ : ∃ a, cs[2]? = some a := ⟨_, Array.getElem?_eq_getElem (by rw [hcs]; exact (show 2 < 6 by decide))⟩
                obtain ⟨qa3, qh3⟩ : ∃ a, cs[3]? = some a := ⟨_, Array.getElem?_eq_getElem (by rw [hcs]; exact (show 3 < 6 by decide))⟩
                obtain ⟨qa4, qh4⟩ : ∃ a, cs[4]? = some a := ⟨_, Array.getElem?_eq_getElem (by rw [hcs]; exact (show 4 < 6 by decide))⟩
                obtain ⟨qa5, qh5⟩ : ∃ a, cs[5]? = some a := ⟨_, Array.getElem?_eq_getElem (by rw [hcs]; exact (show 5 < 6 by decide))⟩
                have qf0 : W.frozen? ⟨gq, 0, none⟩ = false := hb.frozen 0
                have qg0 : W.cell? ⟨gq, 0, none⟩ = some qa0 := (hb.cell 0).trans qh0
                have qf1 : W.frozen? ⟨gq, 1, none⟩ = false := hb.frozen 1
                have qg1 : W.cell? ⟨gq, 1, none⟩ = some qa1 := (hb.cell 1).trans qh1
                have qf2 : W.frozen? ⟨gq, 2, none⟩ = false := hb.frozen 2
                have qg2 : W.cell? ⟨gq, 2, none⟩ = some qa2 := (hb.cell 2).trans qh2
                have qf3 : W.frozen? ⟨gq, 3, none⟩ = false := hb.frozen 3
                have qg3 : W.cell? ⟨gq, 3, none⟩ = some qa3 := (hb.cell 3).trans qh3
                have qf4 : W.frozen? ⟨gq, 4, none⟩ = false := hb.frozen 4
                have qg4 : W.cell? ⟨gq, 4, none⟩ = some qa4 := (hb.cell 4).trans qh4
                have qf5 : W.frozen? ⟨gq, 5, none⟩ = false := hb.frozen 5
                have qg5 : W.cell? ⟨gq, 5, none⟩ = some qa5 := (hb.cell 5).trans qh5
                subst d7
                subst hs2
                refine wpOp_of_list (by rfl) ?_
                go_wp2
                refine HK.out _ _ ⟨_, _, _, _, _, _, _, _, _, _, _, _, rfl, hJ.fill HOK.out ⟨9, 10, 39, #[.int .i64 n0, .int .i64 n1, .int .i64 n2, .int .i64 n3, .int .i64 n4, .int .i64 n5]⟩ (by simp) hka hs hg ((((((hJ.below.setCell hg _).setCell hg _).setCell hg _).setCell hg _).setCell hg _).setCell hg _) (fun k hk => by rw [Below.heap_setCell _ _ _ _ hk, Below.heap_setCell _ _ _ _ hk, Below.heap_setCell _ _ _ _ hk, Below.heap_setCell _ _ _ _ hk, Below.heap_setCell _ _ _ _ hk, Below.heap_setCell _ _ _ _ hk]) ?_⟩
                show Blk _ gq #[.int .i64 n0, .int .i64 n1, .int .i64 n2, .int .i64 n3, .int .i64 n4, .int .i64 n5] _
                rw [← fill6 (a := .int .i64 n0) (b := .int .i64 n1) (c := .int .i64 n2) (d := .int .i64 n3) (e := .int .i64 n4) (f := .int .i64 n5) hcs]
                exact ((((((hb.set 0 _).set 1 _).set 2 _).set 3 _).set 4 _).set 5 _)
              · obtain rfl := Option.some.inj ho
                have d8 : x8 = .int .i64 F := hJ.val 8 (show 8 < 12 by decide) (by decide) (getD_upJ (hd ⟨8, .data⟩ (by simp) (by rfl)))
                subst d8
                refine wpOp_of_list (by rfl) ?_
                go_wp2
                exact HK.out _ _ ⟨_, _, _, _, _, _, _, _, _, _, _, _, rfl, hJ.up HOK.out 11 (by decide) (show 11 < 12 by decide) rfl⟩
            · intro vs L W hlen hJ hall
              clear hok
              obtain ⟨x0, vs0, rfl, hlen0⟩ := len_cons hlen
              obtain ⟨x1, vs1, rfl, hlen1⟩ := len_cons hlen0
              obtain ⟨x2, vs2, rfl, hlen2⟩ := len_cons hlen1
              obtain ⟨x3, vs3, rfl, hlen3⟩ := len_cons hlen2
              obtain ⟨x4, vs4, rfl, hlen4⟩ := len_cons hlen3
              obtain ⟨x5, vs5, rfl, hlen5⟩ := len_cons hlen4
              obtain ⟨x6, vs6, rfl, hlen6⟩ := len_cons hlen5
              obtain ⟨x7, vs7, rfl, hlen7⟩ := len_cons hlen6
              obtain ⟨x8, vs8, rfl, hlen8⟩ := len_cons hlen7
              obtain ⟨x9, vs9, rfl, hlen9⟩ := len_cons hlen8
              obtain ⟨x10, vs10, rfl, hlen10⟩ := len_cons hlen9
              obtain ⟨x11, vs11, rfl, hlen11⟩ := len_cons hlen10
              obtain rfl := len_nil hlen11
              clear hlen hlen0 hlen1 hlen2 hlen3 hlen4 hlen5 hlen6 hlen7 hlen8 hlen9 hlen10 hlen11
              obtain ⟨g0, hs0, hg0, cs0, -, hk0, hc0⟩ := hJ.made ⟨9, 10, 39, #[.int .i64 n0, .int .i64 n1, .int .i64 n2, .int .i64 n3, .int .i64 n4, .int .i64 n5]⟩ (by simp) (hall 9 (of_decide_eq_true (by kernel_rfl)))
              obtain rfl : cs0 = #[.int .i64 n0, .int .i64 n1, .int .i64 n2, .int .i64 n3, .int .i64 n4, .int .i64 n5] := hc0 (hall 10 (of_decide_eq_true (by kernel_rfl)))
              have d0 : x0 = (.agg #[.string q.name, (.slice a1 q.l.length cap1), (.slice a3 q.m.length cap3), .int .i64 q.cover, .int .i64 q.agg, .int .i64 q.poker]) := hJ.val 0 (show 0 < 12 by decide) (by decide) (hall 0 (of_decide_eq_true (by kernel_rfl)))
              have d1 : x1 = .int .i64 d := hJ.val 1 (show 1 < 12 by decide) (by decide) (hall 1 (of_decide_eq_true (by kernel_rfl)))
              have d2 : x2 = .func (.func 10) #[] #[.pointer (some ⟨gx, 0, none⟩), .pointer (some ⟨gy, 0, none⟩), .pointer (some ⟨gz, 0, none⟩)] := hJ.val 2 (show 2 < 12 by decide) (by decide) (hall 2 (of_decide_eq_true (by kernel_rfl)))
              have d3 : x3 = (Value.agg #[.int .i64 leg.lx, .int .i64 leg.ly, .int .i64 leg.lz, .int .i64 leg.hx, .int .i64 leg.hy, .int .i64 leg.hz]) := hJ.val 3 (show 3 < 12 by decide) (by decide) (hall 3 (of_decide_eq_true (by kernel_rfl)))
              have d4 : x4 = (Value.agg #[.int .i64 (movedX dx dy dz leg).lx, .int .i64 (movedX dx dy dz leg).ly, .int .i64 (movedX dx dy dz leg).lz, .int .i64 (movedX dx dy dz leg).hx, .int .i64 (movedX dx dy dz leg).hy, .int .i64 (movedX dx dy dz leg).hz]) := hJ.val 4 (show 4 < 12 by decide) (by decide) (hall 4 (of_decide_eq_true (by kernel_rfl)))
              have d5 : x5 = (.tuple #[.agg #[.int .i64 n0, .int .i64 n1, .int .i64 n2, .int .i64 n3, .int .i64 n4, .int .i64 n5], .int .i64 F]) := hJ.val 5 (show 5 < 12 by decide) (by decide) (hall 5 (of_decide_eq_true (by kernel_rfl)))
              have d6 : x6 = (.tuple #[.agg #[.int .i64 n0, .int .i64 n1, .int .i64 n2, .int .i64 n3, .int .i64 n4, .int .i64 n5], .int .i64 F]) := hJ.val 6 (show 6 < 12 by decide) (by decide) (hall 6 (of_decide_eq_true (by kernel_rfl)))
              have d7 : x7 = (.agg #[.int .i64 n0, .int .i64 n1, .int .i64 n2, .int .i64 n3, .int .i64 n4, .int .i64 n5]) := hJ.val 7 (show 7 < 12 by decide) (by decide) (hall 7 (of_decide_eq_true (by kernel_rfl)))
              have d8 : x8 = .int .i64 F := hJ.val 8 (show 8 < 12 by decide) (by decide) (hall 8 (of_decide_eq_true (by kernel_rfl)))
              have d11 : x11 = .int .i64 F := hJ.val 11 (show 11 < 12 by decide) (by decide) (hall 11 (of_decide_eq_true (by kernel_rfl)))
              have e0 : x9 = .pointer (some ⟨g0, 0, none⟩) := hs0
              have hbel := hJ.below
              clear hJ hall hs0 hc0
              subst d0 d1 d2 d3 d4 d5 d6 d7 d8 d11 e0
              simp only [putAll_cons, putAll_nil, put_some, put_none, List.setIfInBounds_toArray, List.set_cons_succ, List.set_cons_zero]
              obtain ⟨gn, rfl⟩ : ∃ g, g = g0 := ⟨_, rfl⟩
              refine world_mask (fun W => MvK w (.slice ua q.l.length uc) (.slice ta q.m.length tc) g8 gx gy gz g13 q leg dx dy dz s0 s1 s2 s3 s4 s5 W ∧ MvE q (movedX dx dy dz) gm gt (.slice a1 q.l.length cap1) (.slice a3 q.m.length cap3) (.slice a2 q.l.length cap2) (.slice a4 q.m.length cap4) W ∧ Blk W gn #[.int .i64 n0, .int .i64 n1, .int .i64 n2, .int .i64 n3, .int .i64 n4, .int .i64 n5] 39) _ ⟨HKE.out.1.move hbel, HKE.out.2.move hbel, hk0⟩ ?_
              clear hbel hk0 hg0 HKE
              rintro W6 hke
              have HKE := Lib.hid hke
              clear hke
              go_upto_region 23 with fail
              have hok : mkOk [9, 10] [⟨9, 10, 39, #[.int .i64 s1, .int .i64 s0, .int .i64 s2, .int .i64 s3, .int .i64 s4, .int .i64 s5]⟩] := mkOk_one (by decide)
              refine wp_region_M [(.agg #[.string q.name, (.slice a2 q.l.length cap2), (.slice a4 q.m.length cap4), .int .i64 q.cover, .int .i64 q.agg, .int .i64 q.poker]), .int .i64 d, .func (.func 12) #[] #[], (Value.agg #[.int .i64 leg.lx, .int .i64 leg.ly, .int .i64 leg.lz, .int .i64 leg.hx, .int .i64 leg.hy, .int .i64 leg.hz]), (Value.agg #[.int .i64 (turnX leg).lx, .int .i64 (turnX leg).ly, .int .i64 (turnX leg).lz, .int .i64 (turnX leg).hx, .int .i64 (turnX leg).hy, .int .i64 (turnX leg).hz]), (.tuple #[.agg #[.int .i64 s1, .int .i64 s0, .int .i64 s2, .int .i64 s3, .int .i64 s4, .int .i64 s5], .int .i64 0]), (.tuple #[.agg #[.int .i64 s1, .int .i64 s0, .int .i64 s2, .int .i64 s3, .int .i64 s4, .int .i64 s5], .int .i64 0]), (.agg #[.int .i64 s1, .int .i64 s0, .int .i64 s2, .int .i64 s3, .int .i64 s4, .int .i64 s5]), .int .i64 0, undef, undef, .int .i64 0] [9, 10] [⟨9, 10, 39, #[.int .i64 s1, .int .i64 s0, .int .i64 s2, .int .i64 s3, .int .i64 s4, .int .i64 s5]⟩] (by kernel_rfl) (by kernel_rfl) ?_ ?_ ?_
              · intro b hb
                simp only [List.mem_cons, List.not_mem_nil, or_false] at hb
                rcases hb with rfl
                all_goals exact ⟨of_decide_eq_true (by kernel_rfl), of_decide_eq_true (by kernel_rfl)⟩
              · intro L vs W i hlen hJ hi
                obtain ⟨x0, vs0, rfl, hlen0⟩ := len_cons hlen
                obtain ⟨x1, vs1, rfl, hlen1⟩ := len_cons hlen0
                obtain ⟨x2, vs2, rfl, hlen2⟩ := len_cons hlen1
                obtain ⟨x3, vs3, rfl, hlen3⟩ := len_cons hlen2
                obtain ⟨x4, vs4, rfl, hlen4⟩ := len_cons hlen3
                obtain ⟨x5, vs5, rfl, hlen5⟩ := len_cons hlen4
                obtain ⟨x6, vs6, rfl, hlen6⟩ := len_cons hlen5
                obtain ⟨x7, vs7, rfl, hlen7⟩ := len_cons hlen6
                obtain ⟨x8, vs8, rfl, hlen8⟩ := len_cons hlen7
                obtain ⟨x9, vs9, rfl, hlen9⟩ := len_cons hlen8
                obtain ⟨x10, vs10, rfl, hlen10⟩ := len_cons hlen9
                obtain ⟨x11, vs11, rfl, hlen11⟩ := len_cons hlen10
                obtain rfl := len_nil hlen11
                clear hlen hlen0 hlen1 hlen2 hlen3 hlen4 hlen5 hlen6 hlen7 hlen8 hlen9 hlen10 hlen11
                obtain ⟨hun, o, ho, hd⟩ := mem_ready.1 hi
                have hin : i < 12 := by have := (Array.getElem?_eq_some_iff.1 ho).1; simpa using this
                refine wpOp_free (B := fun a' W' => ∃ x0 x1 x2 x3 x4 x5 x6 x7 x8 x9 x10 x11, a' = putAll _ [x0, x1, x2, x3, x4, x5, x6, x7, x8, x9, x10, x11] _ ∧ InvM _ _ _ _ [x0, x1, x2, x3, x4, x5, x6, x7, x8, x9, x10, x11] (L.setIfInBounds i true) W') (fun _ _ h => by obtain ⟨x0, x1, x2, x3, x4, x5, x6, x7, x8, x9, x10, x11, h1, h2⟩ := h; exact ⟨[x0, x1, x2, x3, x4, x5, x6, x7, x8, x9, x10, x11], rfl, h1, h2⟩) ?_
                intro K HK
                simp only [putAll_cons, putAll_nil, put_some, put_none, List.setIfInBounds_toArray, List.set_cons_succ, List.set_cons_zero] at HK ⊢
                have HOK := Lib.hid hok
                clear hok
                have hmk := HKE.out.1.move hJ.below
                have hme := HKE.out.2.1.move hJ.below
                have m0 : W.cell? ⟨gt, 0, none⟩ = some (.string q.name) := hme.b2.cell 0
                have m1 : W.cell? ⟨gt, 1, none⟩ = some ((.slice a2 q.l.length cap2)) := hme.b2.cell 1
                have m2 : W.cell? ⟨gt, 2, none⟩ = some ((.slice a4 q.m.length cap4)) := hme.b2.cell 2
                have m3 : W.cell? ⟨gt, 3, none⟩ = some (.int .i64 q.cover) := hme.b2.cell 3
                have m4 : W.cell? ⟨gt, 4, none⟩ = some (.int .i64 q.agg) := hme.b2.cell 4
                have m5 : W.cell? ⟨gt, 5, none⟩ = some (.int .i64 q.poker) := hme.b2.cell 5
                have l0 : W.cell? ⟨g8, 0, none⟩ = some (.int .i64 leg.lx) := hmk.b8.cell 0
                have l1 : W.cell? ⟨g8, 1, none⟩ = some (.int .i64 leg.ly) := hmk.b8.cell 1
                have l2 : W.cell? ⟨g8, 2, none⟩ = some (.int .i64 leg.lz) := hmk.b8.cell 2
                have l3 : W.cell? ⟨g8, 3, none⟩ = some (.int .i64 leg.hx) := hmk.b8.cell 3
                have l4 : W.cell? ⟨g8, 4, none⟩ = some (.int .i64 leg.hy) := hmk.b8.cell 4
                have l5 : W.cell? ⟨g8, 5, none⟩ = some (.int .i64 leg.hz) := hmk.b8.cell 5
                have ex : W.cell? ⟨gx, 0, none⟩ = some (.int .i16 dx) := hmk.bx.cell 0
                have eY : W.cell? ⟨gy, 0, none⟩ = some (.int .i16 dy) := hmk.bY.cell 0
                have ez : W.cell? ⟨gz, 0, none⟩ = some (.int .i16 dz) := hmk.bz.cell 0
                rcases (show i = 0 ∨ i = 1 ∨ i = 2 ∨ i = 3 ∨ i = 4 ∨ i = 5 ∨ i = 6 ∨ i = 7 ∨ i = 8 ∨ i = 9 ∨ i = 10 ∨ i = 11 by omega) with rfl | rfl | rfl | rfl | rfl | rfl | rfl | rfl | rfl | rfl | rfl | rfl
                · obtain rfl := Option.some.inj ho
                  refine wpOp_of_list (by rfl) ?_
                  go_wp2
                  exact HK.out _ _ ⟨_, _, _, _, _, _, _, _, _, _, _, _, rfl, hJ.up HOK.out 0 (by decide) (show 0 < 12 by decide) rfl⟩
                · obtain rfl := Option.some.inj ho
                  refine wpOp_of_list (by rfl) ?_
                  go_wp2
                  exact HK.out _ _ ⟨_, _, _, _, _, _, _, _, _, _, _, _, rfl, hJ.up HOK.out 1 (by decide) (show 1 < 12 by decide) rfl⟩
                · obtain rfl := Option.some.inj ho
                  refine wpOp_of_list (by rfl) ?_
                  go_wp2
                  exact HK.out _ _ ⟨_, _, _, _, _, _, _, _, _, _, _, _, rfl, hJ.up HOK.out 2 (by decide) (show 2 < 12 by decide) rfl⟩
                · obtain rfl := Option.some.inj ho
                  refine wpOp_of_list (by rfl) ?_
                  go_wp2
                  exact HK.out _ _ ⟨_, _, _, _, _, _, _, _, _, _, _, _, rfl, hJ.up HOK.out 3 (by decide) (show 3 < 12 by decide) rfl⟩
                · obtain rfl := Option.some.inj ho
                  have d2 : x2 = .func (.func 12) #[] #[] := hJ.val 2 (show 2 < 12 by decide) (by decide) (getD_upJ (hd ⟨2, .data⟩ (by simp) (by rfl)))
                  have d3 : x3 = (Value.agg #[.int .i64 leg.lx, .int .i64 leg.ly, .int .i64 leg.lz, .int .i64 leg.hx, .int .i64 leg.hy, .int .i64 leg.hz]) := hJ.val 3 (show 3 < 12 by decide) (by decide) (getD_upJ (hd ⟨3, .data⟩ (by simp) (by rfl)))
                  subst d2 d3
                  refine wpOp_of_list (by rfl) ?_
                  go_wp2_with fail
                  go_at_call 12; refine (turn18_c leg HVG.out _).mono ?_; rintro e w' ⟨rfl, xq, rfl⟩
                  go_wp2
                  exact HK.out _ _ ⟨_, _, _, _, _, _, _, _, _, _, _, _, rfl, (hJ.grow _).up HOK.out 4 (by decide) (show 4 < 12 by decide) rfl⟩
                · obtain rfl := Option.some.inj ho
                  have d0 : x0 = (.agg #[.string q.name, (.slice a2 q.l.length cap2), (.slice a4 q.m.length cap4), .int .i64 q.cover, .int .i64 q.agg, .int .i64 q.poker]) := hJ.val 0 (show 0 < 12 by decide) (by decide) (getD_upJ (hd ⟨0, .data⟩ (by simp) (by rfl)))
                  have d1 : x1 = .int .i64 d := hJ.val 1 (show 1 < 12 by decide) (by decide) (getD_upJ (hd ⟨1, .data⟩ (by simp) (by rfl)))
                  have d4 : x4 = (Value.agg #[.int .i64 (turnX leg).lx, .int .i64 (turnX leg).ly, .int .i64 (turnX leg).lz, .int .i64 (turnX leg).hx, .int .i64 (turnX leg).hy, .int .i64 (turnX leg).hz]) := hJ.val 4 (show 4 < 12 by decide) (by decide) (getD_upJ (hd ⟨4, .data⟩ (by simp) (by rfl)))
                  subst d0 d1 d4
                  refine wpOp_of_list (by rfl) ?_
                  go_wp2_with fail
                  go_at_call 9; refine (HST.out _ _ _ hme.u2 hme.t2 HN.out).mono ?_; rintro e w' ⟨rfl, xq, rfl⟩
                  go_wp2
                  exact HK.out _ _ ⟨_, _, _, _, _, _, _, _, _, _, _, _, rfl, (hJ.grow _).up HOK.out 5 (by decide) (show 5 < 12 by decide) rfl⟩
                · obtain rfl := Option.some.inj ho
                  have d5 : x5 = (.tuple #[.agg #[.int .i64 s1, .int .i64 s0, .int .i64 s2, .int .i64 s3, .int .i64 s4, .int .i64 s5], .int .i64 0]) := hJ.val 5 (show 5 < 12 by decide) (by decide) (getD_upJ (hd ⟨5, .data⟩ (by simp) (by rfl)))
                  subst d5
                  refine wpOp_of_list (by rfl) ?_
                  go_wp2
                  exact HK.out _ _ ⟨_, _, _, _, _, _, _, _, _, _, _, _, rfl, hJ.up HOK.out 6 (by decide) (show 6 < 12 by decide) rfl⟩
                · obtain rfl := Option.some.inj ho
                  have d6 : x6 = (.tuple #[.agg #[.int .i64 s1, .int .i64 s0, .int .i64 s2, .int .i64 s3, .int .i64 s4, .int .i64 s5], .int .i64 0]) := hJ.val 6 (show 6 < 12 by decide) (by decide) (getD_upJ (hd ⟨6, .data⟩ (by simp) (by rfl)))
                  subst d6
                  refine wpOp_of_list (by rfl) ?_
                  go_wp2
                  exact HK.out _ _ ⟨_, _, _, _, _, _, _, _, _, _, _, _, rfl, hJ.up HOK.out 7 (by decide) (show 7 < 12 by decide) rfl⟩
                · obtain rfl := Option.some.inj ho
                  have d6 : x6 = (.tuple #[.agg #[.int .i64 s1, .int .i64 s0, .int .i64 s2, .int .i64 s3, .int .i64 s4, .int .i64 s5], .int .i64 0]) := hJ.val 6 (show 6 < 12 by decide) (by decide) (getD_upJ (hd ⟨6, .data⟩ (by simp) (by rfl)))
                  subst d6
                  refine wpOp_of_list (by rfl) ?_
                  go_wp2
                  exact HK.out _ _ ⟨_, _, _, _, _, _, _, _, _, _, _, _, rfl, hJ.up HOK.out 8 (by decide) (show 8 < 12 by decide) rfl⟩
                · obtain rfl := Option.some.inj ho
                  refine wpOp_of_list (by rfl) ?_
                  go_wp2
                  exact HK.out _ _ ⟨_, _, _, _, _, _, _, _, _, _, _, _, rfl, hJ.make HOK.out ⟨9, 10, 39, #[.int .i64 s1, .int .i64 s0, .int .i64 s2, .int .i64 s3, .int .i64 s4, .int .i64 s5]⟩ (by simp) (show 9 < 12 by decide) hun #[.int .i64 0, .int .i64 0, .int .i64 0, .int .i64 0, .int .i64 0, .int .i64 0] rfl rfl⟩
                · obtain rfl := Option.some.inj ho
                  have d7 : x7 = (.agg #[.int .i64 s1, .int .i64 s0, .int .i64 s2, .int .i64 s3, .int .i64 s4, .int .i64 s5]) := hJ.val 7 (show 7 < 12 by decide) (by decide) (getD_upJ (hd ⟨7, .data⟩ (by simp) (by rfl)))
                  have hka := getD_upJ (hd ⟨9, .data⟩ (by simp) (by rfl))
                  obtain ⟨gq, hs, hg, cs, hcs, hb, -⟩ := hJ.made ⟨9, 10, 39, #[.int .i64 s1, .int .i64 s0, .int .i64 s2, .int .i64 s3, .int .i64 s4, .int .i64 s5]⟩ (by simp) hka
                  have hs2 : x9 = .pointer (some ⟨gq, 0, none⟩) := hs
                  obtain ⟨qa0, qh0⟩ : ∃ a, cs[0]? = some a := ⟨_, Array.getElem?_eq_getElem (by rw [hcs]; exact (show 0 < 6 by decide))⟩
                  obtain ⟨qa1, qh1⟩ : ∃ a, cs[1]? = some a := ⟨_, Array.getElem?_eq_getElem (by rw [hcs]; exact (show 1 < 6 by decide))⟩
                  obtain ⟨qa2, qh2⟩ : ∃ a, cs[2]? = some a := ⟨_, Array.getElem?_eq_getElem (by rw [hcs]; exact (show 2 < 6 by decide))⟩
                  obtain ⟨qa3, qh3⟩ : ∃ a, cs[3]? = some a := ⟨_, Array.getElem?_eq_getElem (by rw [hcs]; exact (show 3 < 6 by decide))⟩
                  obtain ⟨qa4, qh4⟩ : ∃ a, cs[4]? = some a := ⟨_, Array.getElem?_eq_getElem (by rw [hcs]; exact (show 4 < 6 by decide))⟩
                  obtain ⟨qa5, qh5⟩ : ∃ a, cs[5]? = some a := ⟨_, Array.getElem?_eq_getElem (by rw [hcs]; exact (show 5 < 6 by decide))⟩
                  have qf0 : W.frozen? ⟨gq, 0, none⟩ = false := hb.frozen 0
                  have qg0 : W.cell? ⟨gq, 0, none⟩ = some qa0 := (hb.cell 0).trans qh0
                  have qf1 : W.frozen? ⟨gq, 1, none⟩ = false := hb.frozen 1
                  have qg1 : W.cell? ⟨gq, 1, none⟩ = some qa1 := (hb.cell 1).trans qh1
                  have qf2 : W.frozen? ⟨gq, 2, none⟩ = false := hb.frozen 2
                  have qg2 : W.cell? ⟨gq, 2, none⟩ = some qa2 := (hb.cell 2).trans qh2
                  have qf3 : W.frozen? ⟨gq, 3, none⟩ = false := hb.frozen 3
                  have qg3 : W.cell? ⟨gq, 3, none⟩ = some qa3 := (hb.cell 3).trans qh3
                  have qf4 : W.frozen? ⟨gq, 4, none⟩ = false := hb.frozen 4
                  have qg4 : W.cell? ⟨gq, 4, none⟩ = some qa4 := (hb.cell 4).trans qh4
                  have qf5 : W.frozen? ⟨gq, 5, none⟩ = false := hb.frozen 5
                  have qg5 : W.cell? ⟨gq, 5, none⟩ = some qa5 := (hb.cell 5).trans qh5
                  subst d7
                  subst hs2
                  refine wpOp_of_list (by rfl) ?_
                  go_wp2
                  refine HK.out _ _ ⟨_, _, _, _, _, _, _, _, _, _, _, _, rfl, hJ.fill HOK.out ⟨9, 10, 39, #[.int .i64 s1, .int .i64 s0, .int .i64 s2, .int .i64 s3, .int .i64 s4, .int .i64 s5]⟩ (by simp) hka hs hg ((((((hJ.below.setCell hg _).setCell hg _).setCell hg _).setCell hg _).setCell hg _).setCell hg _) (fun k hk => by rw [Below.heap_setCell _ _ _ _ hk, Below.heap_setCell _ _ _ _ hk, Below.heap_setCell _ _ _ _ hk, Below.heap_setCell _ _ _ _ hk, Below.heap_setCell _ _ _ _ hk, Below.heap_setCell _ _ _ _ hk]) ?_⟩
                  show Blk _ gq #[.int .i64 s1, .int .i64 s0, .int .i64 s2, .int .i64 s3, .int .i64 s4, .int .i64 s5] _
                  rw [← fill6 (a := .int .i64 s1) (b := .int .i64 s0) (c := .int .i64 s2) (d := .int .i64 s3) (e := .int .i64 s4) (f := .int .i64 s5) hcs]
                  exact ((((((hb.set 0 _).set 1 _).set 2 _).set 3 _).set 4 _).set 5 _)
                · obtain rfl := Option.some.inj ho
                  have d8 : x8 = .int .i64 0 := hJ.val 8 (show 8 < 12 by decide) (by decide) (getD_upJ (hd ⟨8, .data⟩ (by simp) (by rfl)))
                  subst d8
                  refine wpOp_of_list (by rfl) ?_
                  go_wp2
                  exact HK.out _ _ ⟨_, _, _, _, _, _, _, _, _, _, _, _, rfl, hJ.up HOK.out 11 (by decide) (show 11 < 12 by decide) rfl⟩
              · intro vs L W hlen hJ hall
                clear hok
                obtain ⟨x0, vs0, rfl, hlen0⟩ := len_cons hlen
                obtain ⟨x1, vs1, rfl, hlen1⟩ := len_cons hlen0
                obtain ⟨x2, vs2, rfl, hlen2⟩ := len_cons hlen1
                obtain ⟨x3, vs3, rfl, hlen3⟩ := len_cons hlen2
                obtain ⟨x4, vs4, rfl, hlen4⟩ := len_cons hlen3
                obtain ⟨x5, vs5, rfl, hlen5⟩ := len_cons hlen4
                obtain ⟨x6, vs6, rfl, hlen6⟩ := len_cons hlen5
                obtain ⟨x7, vs7, rfl, hlen7⟩ := len_cons hlen6
                obtain ⟨x8, vs8, rfl, hlen8⟩ := len_cons hlen7
                obtain ⟨x9, vs9, rfl, hlen9⟩ := len_cons hlen8
                obtain ⟨x10, vs10, rfl, hlen10⟩ := len_cons hlen9
                obtain ⟨x11, vs11, rfl, hlen11⟩ := len_cons hlen10
                obtain rfl := len_nil hlen11
                clear hlen hlen0 hlen1 hlen2 hlen3 hlen4 hlen5 hlen6 hlen7 hlen8 hlen9 hlen10 hlen11
                obtain ⟨g0, hs0, hg0, cs0, -, hk0, hc0⟩ := hJ.made ⟨9, 10, 39, #[.int .i64 s1, .int .i64 s0, .int .i64 s2, .int .i64 s3, .int .i64 s4, .int .i64 s5]⟩ (by simp) (hall 9 (of_decide_eq_true (by kernel_rfl)))
                obtain rfl : cs0 = #[.int .i64 s1, .int .i64 s0, .int .i64 s2, .int .i64 s3, .int .i64 s4, .int .i64 s5] := hc0 (hall 10 (of_decide_eq_true (by kernel_rfl)))
                have d0 : x0 = (.agg #[.string q.name, (.slice a2 q.l.length cap2), (.slice a4 q.m.length cap4), .int .i64 q.cover, .int .i64 q.agg, .int .i64 q.poker]) := hJ.val 0 (show 0 < 12 by decide) (by decide) (hall 0 (of_decide_eq_true (by kernel_rfl)))
                have d1 : x1 = .int .i64 d := hJ.val 1 (show 1 < 12 by decide) (by decide) (hall 1 (of_decide_eq_true (by kernel_rfl)))
                have d2 : x2 = .func (.func 12) #[] #[] := hJ.val 2 (show 2 < 12 by decide) (by decide) (hall 2 (of_decide_eq_true (by kernel_rfl)))
                have d3 : x3 = (Value.agg #[.int .i64 leg.lx, .int .i64 leg.ly, .int .i64 leg.lz, .int .i64 leg.hx, .int .i64 leg.hy, .int .i64 leg.hz]) := hJ.val 3 (show 3 < 12 by decide) (by decide) (hall 3 (of_decide_eq_true (by kernel_rfl)))
                have d4 : x4 = (Value.agg #[.int .i64 (turnX leg).lx, .int .i64 (turnX leg).ly, .int .i64 (turnX leg).lz, .int .i64 (turnX leg).hx, .int .i64 (turnX leg).hy, .int .i64 (turnX leg).hz]) := hJ.val 4 (show 4 < 12 by decide) (by decide) (hall 4 (of_decide_eq_true (by kernel_rfl)))
                have d5 : x5 = (.tuple #[.agg #[.int .i64 s1, .int .i64 s0, .int .i64 s2, .int .i64 s3, .int .i64 s4, .int .i64 s5], .int .i64 0]) := hJ.val 5 (show 5 < 12 by decide) (by decide) (hall 5 (of_decide_eq_true (by kernel_rfl)))
                have d6 : x6 = (.tuple #[.agg #[.int .i64 s1, .int .i64 s0, .int .i64 s2, .int .i64 s3, .int .i64 s4, .int .i64 s5], .int .i64 0]) := hJ.val 6 (show 6 < 12 by decide) (by decide) (hall 6 (of_decide_eq_true (by kernel_rfl)))
                have d7 : x7 = (.agg #[.int .i64 s1, .int .i64 s0, .int .i64 s2, .int .i64 s3, .int .i64 s4, .int .i64 s5]) := hJ.val 7 (show 7 < 12 by decide) (by decide) (hall 7 (of_decide_eq_true (by kernel_rfl)))
                have d8 : x8 = .int .i64 0 := hJ.val 8 (show 8 < 12 by decide) (by decide) (hall 8 (of_decide_eq_true (by kernel_rfl)))
                have d11 : x11 = .int .i64 0 := hJ.val 11 (show 11 < 12 by decide) (by decide) (hall 11 (of_decide_eq_true (by kernel_rfl)))
                have e0 : x9 = .pointer (some ⟨g0, 0, none⟩) := hs0
                have hbel := hJ.below
                clear hJ hall hs0 hc0
                subst d0 d1 d2 d3 d4 d5 d6 d7 d8 d11 e0
                simp only [putAll_cons, putAll_nil, put_some, put_none, List.setIfInBounds_toArray, List.set_cons_succ, List.set_cons_zero]
                have k13 := HKE.out.1.b13.below hbel
                have kn := HKE.out.2.2.below hbel
                have hbw := (HKE.out.1.move hbel).below
                have HBW := Lib.hid hbw
                clear hbw
                have s0c : W.cell? ⟨g13, 0, none⟩ = some (.int .i64 s0) := k13.cell 0
                have s1c : W.cell? ⟨g13, 1, none⟩ = some (.int .i64 s1) := k13.cell 1
                have s2c : W.cell? ⟨g13, 2, none⟩ = some (.int .i64 s2) := k13.cell 2
                have s3c : W.cell? ⟨g13, 3, none⟩ = some (.int .i64 s3) := k13.cell 3
                have s4c : W.cell? ⟨g13, 4, none⟩ = some (.int .i64 s4) := k13.cell 4
                have s5c : W.cell? ⟨g13, 5, none⟩ = some (.int .i64 s5) := k13.cell 5
                have n0c : W.cell? ⟨gn, 0, none⟩ = some (.int .i64 n0) := kn.cell 0
                have n1c : W.cell? ⟨gn, 1, none⟩ = some (.int .i64 n1) := kn.cell 1
                have n2c : W.cell? ⟨gn, 2, none⟩ = some (.int .i64 n2) := kn.cell 2
                have n3c : W.cell? ⟨gn, 3, none⟩ = some (.int .i64 n3) := kn.cell 3
                have n4c : W.cell? ⟨gn, 4, none⟩ = some (.int .i64 n4) := kn.cell 4
                have n5c : W.cell? ⟨gn, 5, none⟩ = some (.int .i64 n5) := kn.cell 5
                have u0c : W.cell? ⟨g0, 0, none⟩ = some (.int .i64 s1) := hk0.cell 0
                have u1c : W.cell? ⟨g0, 1, none⟩ = some (.int .i64 s0) := hk0.cell 1
                have u2c : W.cell? ⟨g0, 2, none⟩ = some (.int .i64 s2) := hk0.cell 2
                have u3c : W.cell? ⟨g0, 3, none⟩ = some (.int .i64 s3) := hk0.cell 3
                have u4c : W.cell? ⟨g0, 4, none⟩ = some (.int .i64 s4) := hk0.cell 4
                have u5c : W.cell? ⟨g0, 5, none⟩ = some (.int .i64 s5) := hk0.cell 5
                clear k13 kn hk0 hbel hg0 HKE
                rcases HFF.out with rfl | ⟨rfl, rfl, rfl, rfl, rfl, rfl, rfl⟩
                all_goals
                  go_wp2
                  go_ret
                  exact Ret.of HBW.out

set_option maxRecDepth 100000 in
set_option maxHeartbeats 4000000 in
theorem lawCoverMoves_c (q : Mb) (d : Int) (leg : Bx) (dx dy dz : Int) (hx : -32768 ≤ dx ∧ dx ≤ 32767) (hy : -32768 ≤ dy ∧ dy ≤ 32767) (hz : -32768 ≤ dz ∧ dz ≤ 32767) (w : World) (hq : MbAt w q) :
    Calls Try.prog 4 #[(.agg #[.string q.name, q.u, q.t, .int .i64 q.cover, .int .i64 q.agg, .int .i64 q.poker]), .int .i64 d, (.agg #[.int .i64 leg.lx, .int .i64 leg.ly, .int .i64 leg.lz, .int .i64 leg.hx, .int .i64 leg.hy, .int .i64 leg.hz]), .int .i16 dx, .int .i16 dy, .int .i16 dz] w (Ret w (.bool true)) := by
  have HQ := Lib.hid hq
  cases hf : fewB q
  · have HF := Lib.hid hf
    clear hf hq hx hy hz
    go_enter Try.func4, Try.ntmps4
    go_wp2_with fail
    go_at_call 6; refine (awake18_c _).mono ?_; rintro e w' ⟨rfl, x0, rfl⟩
    go_wp2_with fail
    go_at_call 7; refine (few_v q _ HF.out _ (HQ.out.below (by (repeat (first | exact grow_refl _ | refine grow_ext _ ?_ | refine grow_alloc _ ?_ | refine grow_drew ?_))))).mono ?_; rintro e w' ⟨rfl, x1, rfl⟩
    go_wp2
    go_ret
    exact Ret.of (by (repeat (first | exact grow_refl _ | refine grow_ext _ ?_ | refine grow_alloc _ ?_ | refine grow_drew ?_)))
  by_cases h0 : givenI q d leg = 0
  · exact lawMoves_ok q d leg dx dy dz hx hy hz hf h0 w hq
  have HF := Lib.hid hf
  have HS := Lib.hid (fun w hq => Sides_c q d leg w hq)
  simp only [sideI, h0, if_false] at HS
  generalize givenI q d leg = g at *
  have d1 : (g != 0) = true := by simpa using h0
  clear hf hq hx hy hz h0
  go_enter Try.func4, Try.ntmps4
  go_wp2_with fail
  go_at_call 6; refine (awake18_c _).mono ?_; rintro e w' ⟨rfl, x0, rfl⟩
  go_wp2_with fail
  go_at_call 7; refine (few_v q _ HF.out _ (HQ.out.below (by (repeat (first | exact grow_refl _ | refine grow_ext _ ?_ | refine grow_alloc _ ?_ | refine grow_drew ?_))))).mono ?_; rintro e w' ⟨rfl, x1, rfl⟩
  go_wp2_with fail
  go_at_call 9; refine (HS.out _ (HQ.out.below (by (repeat (first | exact grow_refl _ | refine grow_ext _ ?_ | refine grow_alloc _ ?_ | refine grow_drew ?_))))).mono ?_; rintro e w' ⟨rfl, x2, rfl⟩
  go_wp2
  go_ret
  exact Ret.of (by (repeat (first | exact grow_refl _ | refine grow_ext _ ?_ | refine grow_alloc _ ?_ | refine grow_drew ?_)))

end Go.Proofs.Ytdldbdffaffjoaa

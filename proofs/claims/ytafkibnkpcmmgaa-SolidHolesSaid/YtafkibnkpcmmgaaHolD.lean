/- SolidHoles: boxes stored into a row of one's own; the function that moves a point; moved solids. -/
import Derived.Test.YtafkibnkpcmmgaaHolC
import Derived.Test.YtafkibnkpcmmgaaLawMod
namespace Go.Proofs.Ytafkibnkpcmmgaa
open Go Go.RowKit
set_option maxRecDepth 20000

theorem boxCells_set (L : List Bx) (k : Nat) (b : Bx) (h : k < L.length) :
    ((((((boxCells L).set (k * 6) (.int .i64 b.lx)).set (k * 6 + 1) (.int .i64 b.ly)).set (k * 6 + 2) (.int .i64 b.lz)).set (k * 6 + 3) (.int .i64 b.hx)).set (k * 6 + 4) (.int .i64 b.hy)).set (k * 6 + 5) (.int .i64 b.hz) = boxCells (L.set k b) := by
  induction L generalizing k with
  | nil => simp at h
  | cons a L ih =>
    cases k with
    | zero => simp [boxCells]
    | succ k =>
      have hl : k < L.length := by simpa using h
      have e : ∀ j, (k + 1) * 6 + j = (k * 6 + j) + 1 + 1 + 1 + 1 + 1 + 1 := fun j => by omega
      have e0 : (k + 1) * 6 = k * 6 + 1 + 1 + 1 + 1 + 1 + 1 := by omega
      rw [e 5, e 4, e 3, e 2, e 1, e0]
      show _ = boxCells (a :: L.set k b)
      have hc : ∀ M, boxCells (a :: M) = .int .i64 a.lx :: .int .i64 a.ly :: .int .i64 a.lz :: .int .i64 a.hx :: .int .i64 a.hy :: .int .i64 a.hz :: boxCells M := fun M => rfl
      rw [hc, hc]
      simp only [List.set_cons_succ]
      rw [ih k hl]
theorem own_blk {W : World} {base g n cap : Nat} {e : TypeId} {s : Nat} {xs : List Value} (h : W.ownsRow base e s (.slice (some ⟨g, 0, none⟩) n cap) n xs) : ∃ cur, Blk W g cur e ∧ cur.size = cap * s ∧ cur.toList.take (n * s) = xs ∧ base ≤ g ∧ n ≤ cap ∧ cap ≤ maxLen := by
  rcases h.2 with ⟨h1, -⟩ | ⟨g', cap', cur, h1, h2, h3, h4, h5, h6, h7⟩
  · cases h1
  · cases h1
    exact ⟨cur, h3, h6, h7, h2, h4, h5⟩
def set6 (W : World) (g i : Nat) (b : Bx) : World :=
  (((((W.setCell ⟨g, i, none⟩ (.int .i64 b.lx)).setCell ⟨g, i + 1, none⟩ (.int .i64 b.ly)).setCell ⟨g, i + 2, none⟩ (.int .i64 b.lz)).setCell ⟨g, i + 3, none⟩ (.int .i64 b.hx)).setCell ⟨g, i + 4, none⟩ (.int .i64 b.hy)).setCell ⟨g, i + 5, none⟩ (.int .i64 b.hz)
theorem set6_other (W : World) (g i : Nat) (b : Bx) (k : Nat) (hk : k ≠ g) : (set6 W g i b).heap[k]? = W.heap[k]? := by
  unfold set6
  rw [Below.heap_setCell _ _ _ _ hk, Below.heap_setCell _ _ _ _ hk, Below.heap_setCell _ _ _ _ hk, Below.heap_setCell _ _ _ _ hk, Below.heap_setCell _ _ _ _ hk, Below.heap_setCell _ _ _ _ hk]
theorem set6_size (W : World) (g i : Nat) (b : Bx) : (set6 W g i b).heap.size = W.heap.size := by simp [set6, World.setCell]
theorem set6_rest (W : World) (g i : Nat) (b : Bx) : (set6 W g i b).os = W.os ∧ (set6 W g i b).tape = W.tape ∧ (set6 W g i b).output = W.output := by simp [set6, World.setCell]
theorem own_set {W : World} {base g cap : Nat} {L : List Bx} {k : Nat} (b : Bx) (h : W.ownsRow base 28 6 (.slice (some ⟨g, 0, none⟩) L.length cap) L.length (boxCells L)) (hk : k < L.length) : (set6 W g (k * 6) b).ownsRow base 28 6 (.slice (some ⟨g, 0, none⟩) L.length cap) L.length (boxCells (L.set k b)) := by
  obtain ⟨cur, h1, h2, h3, h4, h5, h6⟩ := own_blk h
  refine ⟨by rw [boxCells_length, List.length_set], .inr ⟨g, cap, _, rfl, h4, (((((h1.set _ _).set _ _).set _ _).set _ _).set _ _).set _ _, h5, h6, by simpa using h2, ?_⟩⟩
  simp only [Array.toList_setIfInBounds]
  rw [List.take_set, List.take_set, List.take_set, List.take_set, List.take_set, List.take_set, h3]
  exact boxCells_set L k b hk
/-- The list of which the first k are moved. -/
def movT (f : Bx → Bx) (L : List Bx) (k : Nat) : List Bx := (L.take k).map f ++ L.drop k
theorem movT_length (f : Bx → Bx) (L : List Bx) (k : Nat) : (movT f L k).length = L.length := by
  unfold movT
  rw [List.length_append, List.length_map, List.length_take, List.length_drop]; omega
theorem movT_zero (f : Bx → Bx) (L : List Bx) : movT f L 0 = L := by simp [movT]
theorem movT_all (f : Bx → Bx) (L : List Bx) : movT f L L.length = L.map f := by simp [movT]
theorem movT_set (f : Bx → Bx) (L : List Bx) {k : Nat} (h : k < L.length) : (movT f L k).set k (f L[k]) = movT f L (k + 1) := by
  unfold movT
  rw [List.take_succ_eq_append_getElem h, List.map_append, List.append_assoc, List.set_append_right _ _ (by simp; omega)]
  congr 1
  rw [List.length_map, List.length_take, Nat.min_eq_left (Nat.le_of_lt h), Nat.sub_self, List.drop_eq_getElem_cons h]
  rfl
/-- What holds before each round of a loop that moves the boxes of one of two rows. -/
structure MovS (w : World) (base G : Nat) (u t : Value) (A B : List Bx) (W : World) : Prop where
  below : Below w.heap.size w W
  hG : w.heap.size ≤ G
  hB : w.heap.size ≤ base
  b : Blk W G #[u, t] 24
  r1 : W.ownsRow base 28 6 u A.length (boxCells A)
  r2 : W.ownsRow base 28 6 t B.length (boxCells B)
  sep : ∀ b, u.ownBlock = some b → t.ownBlock ≠ some b
theorem MovS.grow {w W W' : World} {base G : Nat} {u t : Value} {A B : List Bx} (h : MovS w base G u t A B W) (hb : Below W.heap.size W W') : MovS w base G u t A B W' := by
  have hg : W.grownBy W' none := ⟨hb.os, hb.tape, hb.output, hb.size, fun k hk _ => hb.block k hk⟩
  exact ⟨h.below.trans (hb.mono h.below.size), h.hG, h.hB, h.b.below hb, h.r1.kept hg (by cases u.ownBlock <;> simp), h.r2.kept hg (by cases t.ownBlock <;> simp), h.sep⟩
theorem MovS.other {w W W' : World} {base G g : Nat} {u t : Value} {A B A' B' : List Bx} (h : MovS w base G u t A B W) (hg : w.heap.size ≤ g) (hne : G ≠ g) (hoth : ∀ k, k ≠ g → W'.heap[k]? = W.heap[k]?) (hs : W'.heap.size = W.heap.size) (ho : W'.os = W.os) (ht : W'.tape = W.tape) (hp : W'.output = W.output)
    (r1 : W'.ownsRow base 28 6 u A'.length (boxCells A')) (r2 : W'.ownsRow base 28 6 t B'.length (boxCells B')) : MovS w base G u t A' B' W' :=
  ⟨⟨ho.trans h.below.os, ht.trans h.below.tape, hp.trans h.below.output, by rw [hs]; exact h.below.size, fun k hk => by rw [hoth k (by omega)]; exact h.below.block k hk⟩, h.hG, h.hB, h.b.of_block (hoth G hne), r1, r2, h.sep⟩
theorem own_rest {W W' : World} {base g : Nat} {e : TypeId} {s n : Nat} {v : Value} {xs : List Value} (h : W.ownsRow base e s v n xs) (hne : v.ownBlock ≠ some g) (hoth : ∀ k, k ≠ g → W'.heap[k]? = W.heap[k]?) : W'.ownsRow base e s v n xs := by
  refine ⟨h.1, ?_⟩
  rcases h.2 with h1 | ⟨g', cap, cur, rfl, h2, h3, h4⟩
  · exact .inl h1
  · exact .inr ⟨g', cap, cur, rfl, h2, by rw [hoth g' (fun e => hne (by rw [e]; rfl))]; exact h3, h4⟩
theorem MovS.store1 {w W : World} {base G g cap : Nat} {t : Value} {A B : List Bx} {k : Nat} (b : Bx) (h : MovS w base G (.slice (some ⟨g, 0, none⟩) A.length cap) t A B W) (hk : k < A.length) : MovS w base G (.slice (some ⟨g, 0, none⟩) A.length cap) t (A.set k b) B (set6 W g (k * 6) b) := by
  obtain ⟨cur, h1, -, -, h4, -, -⟩ := own_blk h.r1
  have hne : G ≠ g := fun e => by
    subst e
    have := h.b
    unfold Blk at this h1
    rw [h1] at this
    cases this
  exact h.other (Nat.le_trans h.hB h4) hne (set6_other W g _ b) (set6_size W g _ b) (set6_rest W g _ b).1 (set6_rest W g _ b).2.1 (set6_rest W g _ b).2.2 (by rw [List.length_set]; exact own_set b h.r1 hk) (own_rest h.r2 (h.sep g rfl) (set6_other W g _ b))
theorem MovS.store2 {w W : World} {base G g cap : Nat} {u : Value} {A B : List Bx} {k : Nat} (b : Bx) (h : MovS w base G u (.slice (some ⟨g, 0, none⟩) B.length cap) A B W) (hk : k < B.length) : MovS w base G u (.slice (some ⟨g, 0, none⟩) B.length cap) A (B.set k b) (set6 W g (k * 6) b) := by
  obtain ⟨cur, h1, -, -, h4, -, -⟩ := own_blk h.r2
  have hne : G ≠ g := fun e => by
    subst e
    have := h.b
    unfold Blk at this h1
    rw [h1] at this
    cases this
  exact h.other (Nat.le_trans h.hB h4) hne (set6_other W g _ b) (set6_size W g _ b) (set6_rest W g _ b).1 (set6_rest W g _ b).2.1 (set6_rest W g _ b).2.2 (own_rest h.r1 (fun e => h.sep g e rfl) (set6_other W g _ b)) (by rw [List.length_set]; exact own_set b h.r2 hk)

set_option maxRecDepth 100000 in
set_option maxHeartbeats 2000000 in
theorem by17_c (x y z dx dy dz : Int) (hx : -4194304 ≤ x ∧ x ≤ 4194304) (hy : -4194304 ≤ y ∧ y ≤ 4194304) (hz : -4194304 ≤ z ∧ z ≤ 4194304) (kx : -32768 ≤ dx ∧ dx ≤ 32767) (ky : -32768 ≤ dy ∧ dy ≤ 32767) (kz : -32768 ≤ dz ∧ dz ≤ 32767) (g1 g2 g3 : Nat) (w : World)
    (c1 : w.cell? ⟨g1, 0, none⟩ = some (.int .i16 dx)) (c2 : w.cell? ⟨g2, 0, none⟩ = some (.int .i16 dy)) (c3 : w.cell? ⟨g3, 0, none⟩ = some (.int .i16 dz)) :
    Calls Try.prog 28 #[(.agg #[.int .i64 x, .int .i64 y, .int .i64 z]), .pointer (some ⟨g1, 0, none⟩), .pointer (some ⟨g2, 0, none⟩), .pointer (some ⟨g3, 0, none⟩)] w (Ret w (.agg #[.int .i64 (x + dx), .int .i64 (y + dy), .int .i64 (z + dz)])) := by
  have w1 : IntKind.i64.wrap dx = dx := IntWalk.i64_in _ (by omega)
  have w2 : IntKind.i64.wrap dy = dy := IntWalk.i64_in _ (by omega)
  have w3 : IntKind.i64.wrap dz = dz := IntWalk.i64_in _ (by omega)
  go_enter Try.func28, Try.ntmps28
  go_wp2
  refine bodyPost_ret (v := (.agg #[.int .i64 (x + dx), .int .i64 (y + dy), .int .i64 (z + dz)])) (by simp [results, Try.results28, go_sem]) rfl ?_
  exact Ret.of (by (repeat (first | exact grow_refl _ | refine grow_ext _ ?_ | refine grow_alloc _ ?_ | refine grow_drew ?_)))

def SmallH (b : Bx) : Prop := (0 ≤ b.hx - b.lx ∧ b.hx - b.lx ≤ 131072) ∧ (0 ≤ b.hy - b.ly ∧ b.hy - b.ly ≤ 131072) ∧ (0 ≤ b.hz - b.lz ∧ b.hz - b.lz ≤ 131072)
theorem smallH_vol {b : Bx} (h : SmallH b) : (0 ≤ (b.hx - b.lx) * (b.hy - b.ly) ∧ (b.hx - b.lx) * (b.hy - b.ly) ≤ 17179869184) ∧ 0 ≤ volB b ∧ volB b ≤ 2251799813685248 := by
  obtain ⟨h1, h2, h3⟩ := h
  have m1 : 0 ≤ (b.hx - b.lx) * (b.hy - b.ly) := Int.mul_nonneg h1.1 h2.1
  have m2 : (b.hx - b.lx) * (b.hy - b.ly) ≤ 17179869184 := Int.le_trans (Int.mul_le_mul h1.2 h2.2 h2.1 (by omega)) (by decide)
  exact ⟨⟨m1, m2⟩, Int.mul_nonneg m1 h3.1, Int.le_trans (Int.mul_le_mul m2 h3.2 h3.1 (by omega)) (by decide)⟩
set_option maxHeartbeats 1000000 in
theorem sizeH_c (b : Bx) (hb : validB b = true) (hs : SmallH b) (w : World) : Calls Try.prog 27 #[(.agg #[.int .i64 b.lx, .int .i64 b.ly, .int .i64 b.lz, .int .i64 b.hx, .int .i64 b.hy, .int .i64 b.hz])] w (Ret w (.int .i64 (volB b))) := by
  obtain ⟨m1, m2⟩ := smallH_vol hs
  obtain ⟨h1, h2, h3⟩ := hs
  have hv := valid_iff.1 hb
  have e : volB b = (b.hx - b.lx) * (b.hy - b.ly) * (b.hz - b.lz) := rfl
  rw [e] at m2
  have HE := Lib.hid e
  clear e hb
  go_enter Try.func27, Try.ntmps27
  go_wp2
  go_ret
  rw [HE.out]
  exact Ret.of (by (repeat (first | exact grow_refl _ | refine grow_ext _ ?_ | refine grow_alloc _ ?_ | refine grow_drew ?_)))

/-- A modest box that is moved is a box. -/
theorem moved_thick {b : Bx} {dx dy dz : Int} (h : thickB b = true) (hm : modestB b = true) (kx : -32768 ≤ dx ∧ dx ≤ 32767) (ky : -32768 ≤ dy ∧ dy ≤ 32767) (kz : -32768 ≤ dz ∧ dz ≤ 32767) : thickB (movedX dx dy dz b) = true := by
  have h1 := thick_iff.1 h
  have h2 := valid_iff.1 h1.1
  have h3 := modest_iff.1 hm
  refine thick_iff.2 ⟨valid_iff.2 ?_, ?_⟩ <;> simp only [movedX] <;> omega
theorem moved_solid {l m : List Bx} {dx dy dz : Int} (hs : solidB l m = true) (hm : modestS l m = true) (kx : -32768 ≤ dx ∧ dx ≤ 32767) (ky : -32768 ≤ dy ∧ dy ≤ 32767) (kz : -32768 ≤ dz ∧ dz ≤ 32767) : solidB (l.map (movedX dx dy dz)) (m.map (movedX dx dy dz)) = true := by
  obtain ⟨h1, h2, h3, h4⟩ := solid_iff.1 hs
  unfold modestS at hm
  rw [List.all_append, Bool.and_eq_true, List.all_eq_true, List.all_eq_true] at hm
  rw [List.all_eq_true] at h3 h4
  refine solid_iff.2 ⟨by rw [List.length_map]; exact h1, by rw [List.length_map]; exact h2, ?_, ?_⟩
  · rw [List.all_eq_true]
    intro x hx
    obtain ⟨a, ha, rfl⟩ := List.mem_map.1 hx
    exact moved_thick (h3 a ha) (hm.1 a ha) kx ky kz
  · rw [List.all_eq_true]
    intro x hx
    obtain ⟨a, ha, rfl⟩ := List.mem_map.1 hx
    exact moved_thick (h4 a ha) (hm.2 a ha) kx ky kz
/-- The volumes of the law. -/
theorem holes_facts {l m : List Bx} {b : Bx} {dx dy dz : Int} (hs : solidB l m = true) (hm : modestS l m = true) (h3 : l.length ≤ 3) (k3 : m.length ≤ 3) (hb : solidB [b] [] = true) (hbm : modestS [b] [] = true) (kx : -32768 ≤ dx ∧ dx ≤ 32767) (ky : -32768 ≤ dy ∧ dy ≤ 32767) (kz : -32768 ≤ dz ∧ dz ≤ 32767) :
    ∃ v x y s : Int, volR l m = (v, 0) ∧ volR l (m ++ [b]) = (x, 0) ∧ volR (l ++ [b]) m = (y, 0) ∧ volR (l.map (movedX dx dy dz)) (m.map (movedX dx dy dz)) = (v, 0) ∧ volB b = s ∧ x ≤ v ∧ v - s ≤ x ∧ v ≤ y ∧ y ≤ v + s ∧ (0 ≤ gapI (hullX l) b → x = v) ∧ (0 ≤ s ∧ s ≤ 2251799813685248) ∧ (0 ≤ v ∧ v ≤ 2251799813685248) ∧ validB b = true ∧ validB (hullX l) = true ∧ SmallH b := by
  obtain ⟨h1, h2, ht, hu⟩ := solid_iff.1 hs
  have hne : l ≠ [] := by rintro rfl; simp at h1
  obtain ⟨-, -, hbt, -⟩ := solid_iff.1 hb
  have hbt : thickB b = true := by simpa using hbt
  have hbmd : modestB b = true := by unfold modestS at hbm; simpa using hbm
  have hmd : l.all modestB = true := by unfold modestS at hm; rw [List.all_append, Bool.and_eq_true] at hm; exact hm.1
  have hv := modest_vol (m := m) ht hne hmd
  have hmm := moved_solid hs hm kx ky kz (dx := dx) (dy := dy) (dz := dz)
  have e1 : solidB l (m ++ [b]) = true := solid_iff.2 ⟨h1, by simp; omega, ht, all_snoc hu hbt⟩
  have e2 : solidB (l ++ [b]) m = true := solid_iff.2 ⟨by simp; omega, h2, all_snoc ht hbt, hu⟩
  obtain ⟨p1, p2⟩ := vol_hole (m := m) ht hne hbt
  obtain ⟨p3, p4⟩ := vol_more (m := m) ht hne hbt
  have p5 : 0 ≤ gapI (hullX l) b → volI l (m ++ [b]) = volI l m := vol_beside ht hne
  have p6 := volI_moved dx dy dz (m := m) ht hne (solid_iff.1 hmm).2.2.1
  have hb1 := thick_iff.1 hbt
  have hb2 := valid_iff.1 hb1.1
  have hb3 := modest_iff.1 hbmd
  have hsm : SmallH b := by unfold SmallH; omega
  have hs4 := (smallH_vol hsm).2
  have hv0 : 0 ≤ volI l m := volI_nonneg l m
  have hh := (thick_iff.1 (hull_thick ht hne)).1
  refine ⟨volI l m, volI l (m ++ [b]), volI (l ++ [b]) m, volB b, ?_, ?_, ?_, ?_, rfl, p1, p2, p3, p4, p5, hs4, ⟨hv0, hv⟩, hb1.1, hh, hsm⟩
  · unfold volR; rw [if_pos hs, if_pos (by omega)]
  · unfold volR; rw [if_pos e1, if_pos (by omega)]
  · unfold volR; rw [if_pos e2, if_pos (by omega)]
  · unfold volR; rw [if_pos hmm, p6, if_pos (by omega)]
end Go.Proofs.Ytafkibnkpcmmgaa

/- PokE, PokF in one text. -/
import Derived.Test.YtmoechhfjmemaaaGreatPokK1
import Derived.Test.YtmoechhfjmemaaaGreatRefLK4
import Derived.Test.YtmoechhfjmemaaaGreatPlainK1
import Derived.Test.YtmoechhfjmemaaaGreatRefLK3
import Derived.Test.YtmoechhfjmemaaaGreatSolK4
import Derived.Deep.DeepCutAuto
import Derived.Deep.CutBlock
namespace Go.Proofs.YtmoechhfjmemaaaGreat
open Go.RowKit
set_option maxRecDepth 20000

theorem at22_c (x y z : Int) (w : World) : Calls Tryz.prog 27 #[.int .i64 x, .int .i64 y, .int .i64 z] w (Ret w (.agg #[.int .i64 x, .int .i64 y, .int .i64 z])) := by
  go_enter Tryz.func27, Tryz.ntmps27
  go_wp2
  refine bodyPost_ret (v := (.agg #[.int .i64 x, .int .i64 y, .int .i64 z])) (by simp [results, Tryz.results27, go_sem]) rfl ?_
  exact Ret.of (by (repeat (first | exact grow_refl _ | refine grow_ext _ ?_ | refine grow_alloc _ ?_ | refine grow_drew ?_)))

def exQ22 (u : Value) : Mb := ⟨⟨#[109]⟩, [⟨0, 0, 0, 1000, 200, 300⟩], [], u, .slice none 0 0, 0, 16, 50⟩
def exBar22 (d : Value) : Br := ⟨⟨#[97]⟩, 10, 1, 0, [900], d⟩
def exRun22 (y : Int) : Rn := ⟨⟨#[97]⟩, 1, 2, 50, y, 200, 0, 0, 0, 1⟩
theorem ex_column (u : Value) : columnE (exQ22 u) ⟨100, 100, 50⟩ = (⟨75, 75, 50, 125, 125, 300⟩, 0) := by kernel_rfl
theorem ex_in : containsS [⟨0, 0, 0, 1000, 200, 300⟩] [] ⟨75, 75, 50, 125, 125, 300⟩ = true := by
  rw [contains_one ⟨0, 0, 0, 1000, 200, 300⟩ (by unfold Ordd; decide)]; decide
theorem ex_col (u : Value) : colX (exQ22 u) ⟨100, 100, 50⟩ = ⟨75, 75, 50, 125, 125, 300⟩ := by kernel_rfl
theorem ex_mb (u : Value) : okMb (exQ22 u) = true := by kernel_rfl
theorem ex_tip (u : Value) : tipB (exQ22 u) ⟨100, 100, 50⟩ = true := by kernel_rfl
theorem ex_free (u d : Value) : freeE (exQ22 u) [exBar22 d] [exRun22 60] ⟨100, 100, 50⟩ = (true, 0) := by
  unfold freeE
  rw [if_pos ⟨ex_mb u, show laidB [exBar22 d] [exRun22 60] = true by kernel_rfl⟩, if_pos (ex_tip u)]
  unfold freeR
  rw [ex_col, show rodsI [exBar22 d] [exRun22 60] = [⟨⟨50, 60, 200, 950, 60, 200⟩, 5⟩] by kernel_rfl]
  show ((validB ⟨75, 75, 50, 125, 125, 300⟩ && (containsS [⟨0, 0, 0, 1000, 200, 300⟩] [] ⟨75, 75, 50, 125, 125, 300⟩ && clearB ⟨75, 75, 50, 125, 125, 300⟩ [⟨⟨50, 60, 200, 950, 60, 200⟩, 5⟩])), (0 : Int)) = (true, 0)
  rw [ex_in]
  decide +kernel
theorem ex_held (u d : Value) : freeE (exQ22 u) [exBar22 d] [exRun22 71] ⟨100, 100, 50⟩ = (false, 0) := by
  unfold freeE
  rw [if_pos ⟨ex_mb u, show laidB [exBar22 d] [exRun22 71] = true by kernel_rfl⟩, if_pos (ex_tip u)]
  unfold freeR
  rw [ex_col, show rodsI [exBar22 d] [exRun22 71] = [⟨⟨50, 71, 200, 950, 71, 200⟩, 5⟩] by kernel_rfl]
  show ((validB ⟨75, 75, 50, 125, 125, 300⟩ && (containsS [⟨0, 0, 0, 1000, 200, 300⟩] [] ⟨75, 75, 50, 125, 125, 300⟩ && clearB ⟨75, 75, 50, 125, 125, 300⟩ [⟨⟨50, 71, 200, 950, 71, 200⟩, 5⟩])), (0 : Int)) = (false, 0)
  rw [ex_in]
  decide +kernel

def RetEx (w : World) (y : Int) (e : Ending) (W : World) : Prop :=
  ∃ u d v r, e = .returned (.tuple #[(.agg #[.string (exQ22 u).name, (exQ22 u).u, (exQ22 u).t, .int .i64 (exQ22 u).cover, .int .i64 (exQ22 u).agg, .int .i64 (exQ22 u).poker]), v, r]) ∧ MbAt W (exQ22 u) ∧ Bars W v [exBar22 d] ∧ Runs W r [exRun22 y] ∧ ∃ x, W = ext w x

/-- The slices that the region makes, each in a block of its own, and not in g2. -/
def P1 (g2 : Nat) (v : Value) (W : World) : Prop := ∃ g', v = .slice (some ⟨g', 0, none⟩) 1 1 ∧ g' ≠ g2 ∧ Blk W g' #[.int .i64 900] 3
def P2 (g2 : Nat) (v : Value) (W : World) : Prop := ∃ g', v = .agg #[.string ⟨#[97]⟩, .int .i64 10, .int .i64 1, .int .i64 0, .slice (some ⟨g', 0, none⟩) 1 1] ∧ g' ≠ g2 ∧ Blk W g' #[.int .i64 900] 3
def P3 (g2 : Nat) (v : Value) (W : World) : Prop := ∃ g g', v = .slice (some ⟨g, 0, none⟩) 1 1 ∧ g ≠ g2 ∧ Blk W g #[.string ⟨#[97]⟩, .int .i64 10, .int .i64 1, .int .i64 0, .slice (some ⟨g', 0, none⟩) 1 1] 98 ∧ g' ≠ g2 ∧ Blk W g' #[.int .i64 900] 3
def P8 (g2 : Nat) (y : Int) (v : Value) (W : World) : Prop := ∃ g, v = .slice (some ⟨g, 0, none⟩) 1 1 ∧ g ≠ g2 ∧ Blk W g #[.string ⟨#[97]⟩, .int .i64 1, .int .i64 2, .int .i64 50, .int .i64 y, .int .i64 200, .int .i64 0, .int .i64 0, .int .i64 0, .int .i64 1] 58
/-- The second world has the first one's blocks, but for g2. -/
def Stay (g2 : Nat) (W W' : World) : Prop := ∀ k, k < W.heap.size → k ≠ g2 → W'.heap[k]? = W.heap[k]?
theorem Stay.blk {g2 : Nat} {W W' : World} (h : Stay g2 W W') {k : Nat} {cs : Array Value} {t : TypeId} (hb : Blk W k cs t) (hk : k ≠ g2) : Blk W' k cs t := hb.of_block (h k hb.lt hk)
theorem Stay.p1 {g2 : Nat} {W W' : World} (h : Stay g2 W W') {v : Value} (hp : P1 g2 v W) : P1 g2 v W' := let ⟨g, e, n, b⟩ := hp; ⟨g, e, n, h.blk b n⟩
theorem Stay.p2 {g2 : Nat} {W W' : World} (h : Stay g2 W W') {v : Value} (hp : P2 g2 v W) : P2 g2 v W' := let ⟨g, e, n, b⟩ := hp; ⟨g, e, n, h.blk b n⟩
theorem Stay.p3 {g2 : Nat} {W W' : World} (h : Stay g2 W W') {v : Value} (hp : P3 g2 v W) : P3 g2 v W' := let ⟨g, g', e, n, b, n', b'⟩ := hp; ⟨g, g', e, n, h.blk b n, n', h.blk b' n'⟩
theorem Stay.p8 {g2 : Nat} {y : Int} {W W' : World} (h : Stay g2 W W') {v : Value} (hp : P8 g2 y v W) : P8 g2 y v W' := let ⟨g, e, n, b⟩ := hp; ⟨g, e, n, h.blk b n⟩
theorem Stay.refl (g2 : Nat) (W : World) : Stay g2 W W := fun _ _ _ => rfl
theorem Stay.ext (g2 : Nat) (W x : World) : Stay g2 W (ext W x) := fun k hk _ => (below_ext W x).block k hk
theorem Stay.alloc (g2 : Nat) (W : World) (o : Obj) : Stay g2 W (W.alloc o) := fun _ hk _ => Below.heap_alloc _ _ _ hk

/-- What holds while the region runs. -/
structure ExI (w : World) (y : Int) (gB g5 : Nat) (L : Array Bool) (s3 s4 s11 s12 s13 s14 s15 s16 s17 s18 s19 a0 a1 a2 a3 a4 a5 : Value) (W : World) : Prop where
  below : Below w.heap.size w W
  b5 : Blk W g5 #[.string ⟨#[109]⟩, .slice (some ⟨gB, 0, none⟩) 1 1, .slice none 0 0, .int .i64 0, .int .i64 16, .int .i64 50] 26
  bB : Blk W gB #[.int .i64 0, .int .i64 0, .int .i64 0, .int .i64 1000, .int .i64 200, .int .i64 300] 34
  n5 : g5 ≠ w.heap.size
  nB : gB ≠ w.heap.size
  b2 : Blk W w.heap.size #[a0, a1, a2, a3, a4, a5] 26
  r0 : L.getD 0 true = true → s11 = .agg #[.string ⟨#[109]⟩, .slice (some ⟨gB, 0, none⟩) 1 1, .slice none 0 0, .int .i64 0, .int .i64 16, .int .i64 50]
  r1 : L.getD 1 true = true → P1 w.heap.size s12 W
  r2 : L.getD 2 true = true → P2 w.heap.size s13 W
  r3 : L.getD 3 true = true → P3 w.heap.size s14 W
  r4 : L.getD 4 true = true → s15 = .agg #[.int .i64 1, .int .i64 2]
  r5 : L.getD 5 true = true → s16 = .int .i64 y
  r6 : L.getD 6 true = true → s17 = .agg #[.int .i64 50, .int .i64 y, .int .i64 200]
  r7 : L.getD 7 true = true → s18 = .agg #[.string ⟨#[97]⟩, .int .i64 1, .int .i64 2, .int .i64 50, .int .i64 y, .int .i64 200, .int .i64 0, .int .i64 0, .int .i64 0, .int .i64 1]
  r8 : L.getD 8 true = true → P8 w.heap.size y s19 W
  r9 : L.getD 9 true = true → #[a0, a1, a2, a3, a4, a5] = (#[.string ⟨#[109]⟩, .slice (some ⟨gB, 0, none⟩) 1 1, .slice none 0 0, .int .i64 0, .int .i64 16, .int .i64 50] : Array Value)
  r10 : L.getD 10 true = true → P3 w.heap.size s3 W
  r11 : L.getD 11 true = true → P8 w.heap.size y s4 W
theorem ExI.stay {w : World} {y : Int} {gB g5 : Nat} {L : Array Bool} {s3 s4 s11 s12 s13 s14 s15 s16 s17 s18 s19 a0 a1 a2 a3 a4 a5 : Value} {W W' : World} (h : ExI w y gB g5 L s3 s4 s11 s12 s13 s14 s15 s16 s17 s18 s19 a0 a1 a2 a3 a4 a5 W) (hb : Below w.heap.size w W') (hs : Stay w.heap.size W W')
    (h2 : Blk W' w.heap.size #[a0, a1, a2, a3, a4, a5] 26) : ExI w y gB g5 L s3 s4 s11 s12 s13 s14 s15 s16 s17 s18 s19 a0 a1 a2 a3 a4 a5 W' where
  below := hb
  b5 := hs.blk h.b5 h.n5
  bB := hs.blk h.bB h.nB
  n5 := h.n5
  nB := h.nB
  b2 := h2
  r0 := h.r0
  r1 := fun e => hs.p1 (h.r1 e)
  r2 := fun e => hs.p2 (h.r2 e)
  r3 := fun e => hs.p3 (h.r3 e)
  r4 := h.r4
  r5 := h.r5
  r6 := h.r6
  r7 := h.r7
  r8 := fun e => hs.p8 (h.r8 e)
  r9 := h.r9
  r10 := fun e => hs.p3 (h.r10 e)
  r11 := fun e => hs.p8 (h.r11 e)
theorem ExI.up0 {w : World} {y : Int} {gB g5 : Nat} {L : Array Bool} {s3 s4 s11 s12 s13 s14 s15 s16 s17 s18 s19 a0 a1 a2 a3 a4 a5 v : Value} {W : World} (h : ExI w y gB g5 L s3 s4 s11 s12 s13 s14 s15 s16 s17 s18 s19 a0 a1 a2 a3 a4 a5 W) (hv : v = .agg #[.string ⟨#[109]⟩, .slice (some ⟨gB, 0, none⟩) 1 1, .slice none 0 0, .int .i64 0, .int .i64 16, .int .i64 50]) : ExI w y gB g5 (L.setIfInBounds 0 true) s3 s4 v s12 s13 s14 s15 s16 s17 s18 s19 a0 a1 a2 a3 a4 a5 W where
  below := h.below
  b5 := h.b5
  bB := h.bB
  n5 := h.n5
  nB := h.nB
  b2 := h.b2
  r0 := fun _ => hv
  r1 := fun e => h.r1 (by rwa [getD_set_ne true (by decide)] at e)
  r2 := fun e => h.r2 (by rwa [getD_set_ne true (by decide)] at e)
  r3 := fun e => h.r3 (by rwa [getD_set_ne true (by decide)] at e)
  r4 := fun e => h.r4 (by rwa [getD_set_ne true (by decide)] at e)
  r5 := fun e => h.r5 (by rwa [getD_set_ne true (by decide)] at e)
  r6 := fun e => h.r6 (by rwa [getD_set_ne true (by decide)] at e)
  r7 := fun e => h.r7 (by rwa [getD_set_ne true (by decide)] at e)
  r8 := fun e => h.r8 (by rwa [getD_set_ne true (by decide)] at e)
  r9 := fun e => h.r9 (by rwa [getD_set_ne true (by decide)] at e)
  r10 := fun e => h.r10 (by rwa [getD_set_ne true (by decide)] at e)
  r11 := fun e => h.r11 (by rwa [getD_set_ne true (by decide)] at e)
theorem ExI.up1 {w : World} {y : Int} {gB g5 : Nat} {L : Array Bool} {s3 s4 s11 s12 s13 s14 s15 s16 s17 s18 s19 a0 a1 a2 a3 a4 a5 v : Value} {W : World} (h : ExI w y gB g5 L s3 s4 s11 s12 s13 s14 s15 s16 s17 s18 s19 a0 a1 a2 a3 a4 a5 W) (hv : P1 w.heap.size v W) : ExI w y gB g5 (L.setIfInBounds 1 true) s3 s4 s11 v s13 s14 s15 s16 s17 s18 s19 a0 a1 a2 a3 a4 a5 W where
  below := h.below
  b5 := h.b5
  bB := h.bB
  n5 := h.n5
  nB := h.nB
  b2 := h.b2
  r0 := fun e => h.r0 (by rwa [getD_set_ne true (by decide)] at e)
  r1 := fun _ => hv
  r2 := fun e => h.r2 (by rwa [getD_set_ne true (by decide)] at e)
  r3 := fun e => h.r3 (by rwa [getD_set_ne true (by decide)] at e)
  r4 := fun e => h.r4 (by rwa [getD_set_ne true (by decide)] at e)
  r5 := fun e => h.r5 (by rwa [getD_set_ne true (by decide)] at e)
  r6 := fun e => h.r6 (by rwa [getD_set_ne true (by decide)] at e)
  r7 := fun e => h.r7 (by rwa [getD_set_ne true (by decide)] at e)
  r8 := fun e => h.r8 (by rwa [getD_set_ne true (by decide)] at e)
  r9 := fun e => h.r9 (by rwa [getD_set_ne true (by decide)] at e)
  r10 := fun e => h.r10 (by rwa [getD_set_ne true (by decide)] at e)
  r11 := fun e => h.r11 (by rwa [getD_set_ne true (by decide)] at e)
theorem ExI.up2 {w : World} {y : Int} {gB g5 : Nat} {L : Array Bool} {s3 s4 s11 s12 s13 s14 s15 s16 s17 s18 s19 a0 a1 a2 a3 a4 a5 v : Value} {W : World} (h : ExI w y gB g5 L s3 s4 s11 s12 s13 s14 s15 s16 s17 s18 s19 a0 a1 a2 a3 a4 a5 W) (hv : P2 w.heap.size v W) : ExI w y gB g5 (L.setIfInBounds 2 true) s3 s4 s11 s12 v s14 s15 s16 s17 s18 s19 a0 a1 a2 a3 a4 a5 W where
  below := h.below
  b5 := h.b5
  bB := h.bB
  n5 := h.n5
  nB := h.nB
  b2 := h.b2
  r0 := fun e => h.r0 (by rwa [getD_set_ne true (by decide)] at e)
  r1 := fun e => h.r1 (by rwa [getD_set_ne true (by decide)] at e)
  r2 := fun _ => hv
  r3 := fun e => h.r3 (by rwa [getD_set_ne true (by decide)] at e)
  r4 := fun e => h.r4 (by rwa [getD_set_ne true (by decide)] at e)
  r5 := fun e => h.r5 (by rwa [getD_set_ne true (by decide)] at e)
  r6 := fun e => h.r6 (by rwa [getD_set_ne true (by decide)] at e)
  r7 := fun e => h.r7 (by rwa [getD_set_ne true (by decide)] at e)
  r8 := fun e => h.r8 (by rwa [getD_set_ne true (by decide)] at e)
  r9 := fun e => h.r9 (by rwa [getD_set_ne true (by decide)] at e)
  r10 := fun e => h.r10 (by rwa [getD_set_ne true (by decide)] at e)
  r11 := fun e => h.r11 (by rwa [getD_set_ne true (by decide)] at e)
theorem ExI.up3 {w : World} {y : Int} {gB g5 : Nat} {L : Array Bool} {s3 s4 s11 s12 s13 s14 s15 s16 s17 s18 s19 a0 a1 a2 a3 a4 a5 v : Value} {W : World} (h : ExI w y gB g5 L s3 s4 s11 s12 s13 s14 s15 s16 s17 s18 s19 a0 a1 a2 a3 a4 a5 W) (hv : P3 w.heap.size v W) : ExI w y gB g5 (L.setIfInBounds 3 true) s3 s4 s11 s12 s13 v s15 s16 s17 s18 s19 a0 a1 a2 a3 a4 a5 W where
  below := h.below
  b5 := h.b5
  bB := h.bB
  n5 := h.n5
  nB := h.nB
  b2 := h.b2
  r0 := fun e => h.r0 (by rwa [getD_set_ne true (by decide)] at e)
  r1 := fun e => h.r1 (by rwa [getD_set_ne true (by decide)] at e)
  r2 := fun e => h.r2 (by rwa [getD_set_ne true (by decide)] at e)
  r3 := fun _ => hv
  r4 := fun e => h.r4 (by rwa [getD_set_ne true (by decide)] at e)
  r5 := fun e => h.r5 (by rwa [getD_set_ne true (by decide)] at e)
  r6 := fun e => h.r6 (by rwa [getD_set_ne true (by decide)] at e)
  r7 := fun e => h.r7 (by rwa [getD_set_ne true (by decide)] at e)
  r8 := fun e => h.r8 (by rwa [getD_set_ne true (by decide)] at e)
  r9 := fun e => h.r9 (by rwa [getD_set_ne true (by decide)] at e)
  r10 := fun e => h.r10 (by rwa [getD_set_ne true (by decide)] at e)
  r11 := fun e => h.r11 (by rwa [getD_set_ne true (by decide)] at e)
theorem ExI.up4 {w : World} {y : Int} {gB g5 : Nat} {L : Array Bool} {s3 s4 s11 s12 s13 s14 s15 s16 s17 s18 s19 a0 a1 a2 a3 a4 a5 v : Value} {W : World} (h : ExI w y gB g5 L s3 s4 s11 s12 s13 s14 s15 s16 s17 s18 s19 a0 a1 a2 a3 a4 a5 W) (hv : v = .agg #[.int .i64 1, .int .i64 2]) : ExI w y gB g5 (L.setIfInBounds 4 true) s3 s4 s11 s12 s13 s14 v s16 s17 s18 s19 a0 a1 a2 a3 a4 a5 W where
  below := h.below
  b5 := h.b5
  bB := h.bB
  n5 := h.n5
  nB := h.nB
  b2 := h.b2
  r0 := fun e => h.r0 (by rwa [getD_set_ne true (by decide)] at e)
  r1 := fun e => h.r1 (by rwa [getD_set_ne true (by decide)] at e)
  r2 := fun e => h.r2 (by rwa [getD_set_ne true (by decide)] at e)
  r3 := fun e => h.r3 (by rwa [getD_set_ne true (by decide)] at e)
  r4 := fun _ => hv
  r5 := fun e => h.r5 (by rwa [getD_set_ne true (by decide)] at e)
  r6 := fun e => h.r6 (by rwa [getD_set_ne true (by decide)] at e)
  r7 := fun e => h.r7 (by rwa [getD_set_ne true (by decide)] at e)
  r8 := fun e => h.r8 (by rwa [getD_set_ne true (by decide)] at e)
  r9 := fun e => h.r9 (by rwa [getD_set_ne true (by decide)] at e)
  r10 := fun e => h.r10 (by rwa [getD_set_ne true (by decide)] at e)
  r11 := fun e => h.r11 (by rwa [getD_set_ne true (by decide)] at e)
theorem ExI.up5 {w : World} {y : Int} {gB g5 : Nat} {L : Array Bool} {s3 s4 s11 s12 s13 s14 s15 s16 s17 s18 s19 a0 a1 a2 a3 a4 a5 v : Value} {W : World} (h : ExI w y gB g5 L s3 s4 s11 s12 s13 s14 s15 s16 s17 s18 s19 a0 a1 a2 a3 a4 a5 W) (hv : v = .int .i64 y) : ExI w y gB g5 (L.setIfInBounds 5 true) s3 s4 s11 s12 s13 s14 s15 v s17 s18 s19 a0 a1 a2 a3 a4 a5 W where
  below := h.below
  b5 := h.b5
  bB := h.bB
  n5 := h.n5
  nB := h.nB
  b2 := h.b2
  r0 := fun e => h.r0 (by rwa [getD_set_ne true (by decide)] at e)
  r1 := fun e => h.r1 (by rwa [getD_set_ne true (by decide)] at e)
  r2 := fun e => h.r2 (by rwa [getD_set_ne true (by decide)] at e)
  r3 := fun e => h.r3 (by rwa [getD_set_ne true (by decide)] at e)
  r4 := fun e => h.r4 (by rwa [getD_set_ne true (by decide)] at e)
  r5 := fun _ => hv
  r6 := fun e => h.r6 (by rwa [getD_set_ne true (by decide)] at e)
  r7 := fun e => h.r7 (by rwa [getD_set_ne true (by decide)] at e)
  r8 := fun e => h.r8 (by rwa [getD_set_ne true (by decide)] at e)
  r9 := fun e => h.r9 (by rwa [getD_set_ne true (by decide)] at e)
  r10 := fun e => h.r10 (by rwa [getD_set_ne true (by decide)] at e)
  r11 := fun e => h.r11 (by rwa [getD_set_ne true (by decide)] at e)
theorem ExI.up6 {w : World} {y : Int} {gB g5 : Nat} {L : Array Bool} {s3 s4 s11 s12 s13 s14 s15 s16 s17 s18 s19 a0 a1 a2 a3 a4 a5 v : Value} {W : World} (h : ExI w y gB g5 L s3 s4 s11 s12 s13 s14 s15 s16 s17 s18 s19 a0 a1 a2 a3 a4 a5 W) (hv : v = .agg #[.int .i64 50, .int .i64 y, .int .i64 200]) : ExI w y gB g5 (L.setIfInBounds 6 true) s3 s4 s11 s12 s13 s14 s15 s16 v s18 s19 a0 a1 a2 a3 a4 a5 W where
  below := h.below
  b5 := h.b5
  bB := h.bB
  n5 := h.n5
  nB := h.nB
  b2 := h.b2
  r0 := fun e => h.r0 (by rwa [getD_set_ne true (by decide)] at e)
  r1 := fun e => h.r1 (by rwa [getD_set_ne true (by decide)] at e)
  r2 := fun e => h.r2 (by rwa [getD_set_ne true (by decide)] at e)
  r3 := fun e => h.r3 (by rwa [getD_set_ne true (by decide)] at e)
  r4 := fun e => h.r4 (by rwa [getD_set_ne true (by decide)] at e)
  r5 := fun e => h.r5 (by rwa [getD_set_ne true (by decide)] at e)
  r6 := fun _ => hv
  r7 := fun e => h.r7 (by rwa [getD_set_ne true (by decide)] at e)
  r8 := fun e => h.r8 (by rwa [getD_set_ne true (by decide)] at e)
  r9 := fun e => h.r9 (by rwa [getD_set_ne true (by decide)] at e)
  r10 := fun e => h.r10 (by rwa [getD_set_ne true (by decide)] at e)
  r11 := fun e => h.r11 (by rwa [getD_set_ne true (by decide)] at e)
theorem ExI.up7 {w : World} {y : Int} {gB g5 : Nat} {L : Array Bool} {s3 s4 s11 s12 s13 s14 s15 s16 s17 s18 s19 a0 a1 a2 a3 a4 a5 v : Value} {W : World} (h : ExI w y gB g5 L s3 s4 s11 s12 s13 s14 s15 s16 s17 s18 s19 a0 a1 a2 a3 a4 a5 W) (hv : v = .agg #[.string ⟨#[97]⟩, .int .i64 1, .int .i64 2, .int .i64 50, .int .i64 y, .int .i64 200, .int .i64 0, .int .i64 0, .int .i64 0, .int .i64 1]) : ExI w y gB g5 (L.setIfInBounds 7 true) s3 s4 s11 s12 s13 s14 s15 s16 s17 v s19 a0 a1 a2 a3 a4 a5 W where
  below := h.below
  b5 := h.b5
  bB := h.bB
  n5 := h.n5
  nB := h.nB
  b2 := h.b2
  r0 := fun e => h.r0 (by rwa [getD_set_ne true (by decide)] at e)
  r1 := fun e => h.r1 (by rwa [getD_set_ne true (by decide)] at e)
  r2 := fun e => h.r2 (by rwa [getD_set_ne true (by decide)] at e)
  r3 := fun e => h.r3 (by rwa [getD_set_ne true (by decide)] at e)
  r4 := fun e => h.r4 (by rwa [getD_set_ne true (by decide)] at e)
  r5 := fun e => h.r5 (by rwa [getD_set_ne true (by decide)] at e)
  r6 := fun e => h.r6 (by rwa [getD_set_ne true (by decide)] at e)
  r7 := fun _ => hv
  r8 := fun e => h.r8 (by rwa [getD_set_ne true (by decide)] at e)
  r9 := fun e => h.r9 (by rwa [getD_set_ne true (by decide)] at e)
  r10 := fun e => h.r10 (by rwa [getD_set_ne true (by decide)] at e)
  r11 := fun e => h.r11 (by rwa [getD_set_ne true (by decide)] at e)
theorem ExI.up8 {w : World} {y : Int} {gB g5 : Nat} {L : Array Bool} {s3 s4 s11 s12 s13 s14 s15 s16 s17 s18 s19 a0 a1 a2 a3 a4 a5 v : Value} {W : World} (h : ExI w y gB g5 L s3 s4 s11 s12 s13 s14 s15 s16 s17 s18 s19 a0 a1 a2 a3 a4 a5 W) (hv : P8 w.heap.size y v W) : ExI w y gB g5 (L.setIfInBounds 8 true) s3 s4 s11 s12 s13 s14 s15 s16 s17 s18 v a0 a1 a2 a3 a4 a5 W where
  below := h.below
  b5 := h.b5
  bB := h.bB
  n5 := h.n5
  nB := h.nB
  b2 := h.b2
  r0 := fun e => h.r0 (by rwa [getD_set_ne true (by decide)] at e)
  r1 := fun e => h.r1 (by rwa [getD_set_ne true (by decide)] at e)
  r2 := fun e => h.r2 (by rwa [getD_set_ne true (by decide)] at e)
  r3 := fun e => h.r3 (by rwa [getD_set_ne true (by decide)] at e)
  r4 := fun e => h.r4 (by rwa [getD_set_ne true (by decide)] at e)
  r5 := fun e => h.r5 (by rwa [getD_set_ne true (by decide)] at e)
  r6 := fun e => h.r6 (by rwa [getD_set_ne true (by decide)] at e)
  r7 := fun e => h.r7 (by rwa [getD_set_ne true (by decide)] at e)
  r8 := fun _ => hv
  r9 := fun e => h.r9 (by rwa [getD_set_ne true (by decide)] at e)
  r10 := fun e => h.r10 (by rwa [getD_set_ne true (by decide)] at e)
  r11 := fun e => h.r11 (by rwa [getD_set_ne true (by decide)] at e)
theorem ExI.up10 {w : World} {y : Int} {gB g5 : Nat} {L : Array Bool} {s3 s4 s11 s12 s13 s14 s15 s16 s17 s18 s19 a0 a1 a2 a3 a4 a5 v : Value} {W : World} (h : ExI w y gB g5 L s3 s4 s11 s12 s13 s14 s15 s16 s17 s18 s19 a0 a1 a2 a3 a4 a5 W) (hv : P3 w.heap.size v W) : ExI w y gB g5 (L.setIfInBounds 10 true) v s4 s11 s12 s13 s14 s15 s16 s17 s18 s19 a0 a1 a2 a3 a4 a5 W where
  below := h.below
  b5 := h.b5
  bB := h.bB
  n5 := h.n5
  nB := h.nB
  b2 := h.b2
  r0 := fun e => h.r0 (by rwa [getD_set_ne true (by decide)] at e)
  r1 := fun e => h.r1 (by rwa [getD_set_ne true (by decide)] at e)
  r2 := fun e => h.r2 (by rwa [getD_set_ne true (by decide)] at e)
  r3 := fun e => h.r3 (by rwa [getD_set_ne true (by decide)] at e)
  r4 := fun e => h.r4 (by rwa [getD_set_ne true (by decide)] at e)
  r5 := fun e => h.r5 (by rwa [getD_set_ne true (by decide)] at e)
  r6 := fun e => h.r6 (by rwa [getD_set_ne true (by decide)] at e)
  r7 := fun e => h.r7 (by rwa [getD_set_ne true (by decide)] at e)
  r8 := fun e => h.r8 (by rwa [getD_set_ne true (by decide)] at e)
  r9 := fun e => h.r9 (by rwa [getD_set_ne true (by decide)] at e)
  r10 := fun _ => hv
  r11 := fun e => h.r11 (by rwa [getD_set_ne true (by decide)] at e)
theorem ExI.up11 {w : World} {y : Int} {gB g5 : Nat} {L : Array Bool} {s3 s4 s11 s12 s13 s14 s15 s16 s17 s18 s19 a0 a1 a2 a3 a4 a5 v : Value} {W : World} (h : ExI w y gB g5 L s3 s4 s11 s12 s13 s14 s15 s16 s17 s18 s19 a0 a1 a2 a3 a4 a5 W) (hv : P8 w.heap.size y v W) : ExI w y gB g5 (L.setIfInBounds 11 true) s3 v s11 s12 s13 s14 s15 s16 s17 s18 s19 a0 a1 a2 a3 a4 a5 W where
  below := h.below
  b5 := h.b5
  bB := h.bB
  n5 := h.n5
  nB := h.nB
  b2 := h.b2
  r0 := fun e => h.r0 (by rwa [getD_set_ne true (by decide)] at e)
  r1 := fun e => h.r1 (by rwa [getD_set_ne true (by decide)] at e)
  r2 := fun e => h.r2 (by rwa [getD_set_ne true (by decide)] at e)
  r3 := fun e => h.r3 (by rwa [getD_set_ne true (by decide)] at e)
  r4 := fun e => h.r4 (by rwa [getD_set_ne true (by decide)] at e)
  r5 := fun e => h.r5 (by rwa [getD_set_ne true (by decide)] at e)
  r6 := fun e => h.r6 (by rwa [getD_set_ne true (by decide)] at e)
  r7 := fun e => h.r7 (by rwa [getD_set_ne true (by decide)] at e)
  r8 := fun e => h.r8 (by rwa [getD_set_ne true (by decide)] at e)
  r9 := fun e => h.r9 (by rwa [getD_set_ne true (by decide)] at e)
  r10 := fun e => h.r10 (by rwa [getD_set_ne true (by decide)] at e)
  r11 := fun _ => hv
theorem ExI.put9 {w : World} {y : Int} {gB g5 : Nat} {L : Array Bool} {s3 s4 s11 s12 s13 s14 s15 s16 s17 s18 s19 a0 a1 a2 a3 a4 a5 c0 c1 c2 c3 c4 c5 : Value} {W W' : World} (h : ExI w y gB g5 L s3 s4 s11 s12 s13 s14 s15 s16 s17 s18 s19 a0 a1 a2 a3 a4 a5 W) (hb : Below w.heap.size w W') (hs : Stay w.heap.size W W') (h2 : Blk W' w.heap.size #[c0, c1, c2, c3, c4, c5] 26) (hv : #[c0, c1, c2, c3, c4, c5] = (#[.string ⟨#[109]⟩, .slice (some ⟨gB, 0, none⟩) 1 1, .slice none 0 0, .int .i64 0, .int .i64 16, .int .i64 50] : Array Value)) : ExI w y gB g5 (L.setIfInBounds 9 true) s3 s4 s11 s12 s13 s14 s15 s16 s17 s18 s19 c0 c1 c2 c3 c4 c5 W' where
  below := hb
  b5 := hs.blk h.b5 h.n5
  bB := hs.blk h.bB h.nB
  n5 := h.n5
  nB := h.nB
  b2 := h2
  r0 := fun e => h.r0 (by rwa [getD_set_ne true (by decide)] at e)
  r1 := fun e => hs.p1 (h.r1 (by rwa [getD_set_ne true (by decide)] at e))
  r2 := fun e => hs.p2 (h.r2 (by rwa [getD_set_ne true (by decide)] at e))
  r3 := fun e => hs.p3 (h.r3 (by rwa [getD_set_ne true (by decide)] at e))
  r4 := fun e => h.r4 (by rwa [getD_set_ne true (by decide)] at e)
  r5 := fun e => h.r5 (by rwa [getD_set_ne true (by decide)] at e)
  r6 := fun e => h.r6 (by rwa [getD_set_ne true (by decide)] at e)
  r7 := fun e => h.r7 (by rwa [getD_set_ne true (by decide)] at e)
  r8 := fun e => hs.p8 (h.r8 (by rwa [getD_set_ne true (by decide)] at e))
  r9 := fun _ => hv
  r10 := fun e => hs.p3 (h.r10 (by rwa [getD_set_ne true (by decide)] at e))
  r11 := fun e => hs.p8 (h.r11 (by rwa [getD_set_ne true (by decide)] at e))
theorem getD_up {L : Array Bool} {j : Nat} (h : L.getD j false = true) : L.getD j true = true := by
  unfold Array.getD at h ⊢
  by_cases hj : j < L.size
  · simp only [hj, dite_true] at h ⊢; exact h
  · simp [hj] at h
def ExInv (w : World) (y : Int) (gB g5 : Nat) (L : Array Bool) (a : Act) (W : World) : Prop := ∃ s3 s4 s11 s12 s13 s14 s15 s16 s17 s18 s19 a0 a1 a2 a3 a4 a5, a = { tmps := #[.int .i64 y, undef, .pointer (some ⟨w.heap.size, 0, none⟩), s3, s4, .pointer (some ⟨g5, 0, none⟩), .agg #[.int .i64 1000, .int .i64 200, .int .i64 300], .agg #[.int .i64 0, .int .i64 0, .int .i64 0, .int .i64 1000, .int .i64 200, .int .i64 300], .slice (some ⟨gB, 0, none⟩) 1 1, .agg #[.slice (some ⟨gB, 0, none⟩) 1 1, .slice none 0 0], .agg #[.string ⟨#[109]⟩, .slice (some ⟨gB, 0, none⟩) 1 1, .slice none 0 0, .int .i64 0, .int .i64 16, .int .i64 50], s11, s12, s13, s14, s15, s16, s17, s18, s19], defers := [] } ∧ ExI w y gB g5 L s3 s4 s11 s12 s13 s14 s15 s16 s17 s18 s19 a0 a1 a2 a3 a4 a5 W

set_option maxRecDepth 100000 in
set_option maxHeartbeats 8000000 in
theorem example22_c (y : Int) (w : World) : Calls Tryz.prog 46 #[.int .i64 y] w (RetEx w y) := by
  go_enter Tryz.func46, Tryz.ntmps46
  go_wp2_with fail
  go_at_call 27; refine (at22_c _ _ _ _).mono ?_; rintro e w' ⟨rfl, x1, rfl⟩
  go_wp2_with fail
  obtain ⟨gB, hgB⟩ : ∃ g, g = w.heap.size + 1 + x1.heap.size := ⟨_, rfl⟩
  obtain ⟨g5, hg5⟩ : ∃ g, g = w.heap.size + 1 + x1.heap.size + 1 := ⟨_, rfl⟩
  rw [← hg5, ← hgB]
  refine wp_region_inv (ExInv w y gB g5) (by kernel_rfl) (by kernel_rfl) ?_ ?_ ?_
  · refine ⟨_, _, _, _, _, _, _, _, _, _, _, .string ⟨#[]⟩, .slice none 0 0, .slice none 0 0, .int .i64 0, .int .i64 0, .int .i64 0, rfl, ?_⟩
    have hb : Below w.heap.size w ((((ext (w.alloc (.cells #[.string ⟨#[]⟩, .slice none 0 0, .slice none 0 0, .int .i64 0, .int .i64 0, .int .i64 0] 26)) x1).alloc (.cells #[.int .i64 0, .int .i64 0, .int .i64 0, .int .i64 1000, .int .i64 200, .int .i64 300] 34)).alloc (.cells #[.string ⟨#[109]⟩, .slice (some ⟨gB, 0, none⟩) 1 1, .slice none 0 0, .int .i64 0, .int .i64 16, .int .i64 50] 26))) := by (repeat (first | exact grow_refl _ | refine grow_ext _ ?_ | refine grow_alloc _ ?_ | refine grow_drew ?_))
    exact { below := hb.drew, b5 := Blk.new' (by simp only [size_ext, World.size_alloc]; omega) _ _, bB := (Blk.new' (by simp only [size_ext, World.size_alloc]; omega) _ _).alloc _, n5 := by omega, nB := by omega, b2 := ((((Blk.new _ _ _).ext _).alloc _).alloc _),
            r0 := fun e => by simp at e, r1 := fun e => by simp at e, r2 := fun e => by simp at e, r3 := fun e => by simp at e, r4 := fun e => by simp at e, r5 := fun e => by simp at e, r6 := fun e => by simp at e, r7 := fun e => by simp at e, r8 := fun e => by simp at e, r9 := fun e => by simp at e, r10 := fun e => by simp at e, r11 := fun e => by simp at e }
  · rintro L a W i ⟨s3, s4, s11, s12, s13, s14, s15, s16, s17, s18, s19, a0, a1, a2, a3, a4, a5, rfl, hI⟩ hi
    clear hgB hg5
    obtain ⟨hun, o, ho, hd⟩ := mem_ready.1 hi
    have hi12 : i < 12 := by have := (Array.getElem?_eq_some_iff.1 ho).1; simpa using this
    rcases (show i = 0 ∨ i = 1 ∨ i = 2 ∨ i = 3 ∨ i = 4 ∨ i = 5 ∨ i = 6 ∨ i = 7 ∨ i = 8 ∨ i = 9 ∨ i = 10 ∨ i = 11 by omega) with rfl | rfl | rfl | rfl | rfl | rfl | rfl | rfl | rfl | rfl | rfl | rfl
    · obtain rfl := Option.some.inj ho
      have c0 : W.cell? ⟨g5, 0, none⟩ = some (.string ⟨#[109]⟩) := hI.b5.cell 0
      have c1 : W.cell? ⟨g5, 1, none⟩ = some (.slice (some ⟨gB, 0, none⟩) 1 1) := hI.b5.cell 1
      have c2 : W.cell? ⟨g5, 2, none⟩ = some (.slice none 0 0) := hI.b5.cell 2
      have c3 : W.cell? ⟨g5, 3, none⟩ = some (.int .i64 0) := hI.b5.cell 3
      have c4 : W.cell? ⟨g5, 4, none⟩ = some (.int .i64 16) := hI.b5.cell 4
      have c5 : W.cell? ⟨g5, 5, none⟩ = some (.int .i64 50) := hI.b5.cell 5
      refine wpOp_of_list (by rfl) ?_
      go_wp2
      exact ⟨_, _, _, _, _, _, _, _, _, _, _, _, _, _, _, _, _, rfl, hI.up0 rfl⟩
    · obtain rfl := Option.some.inj ho
      refine wpOp_of_list (by rfl) ?_
      go_wp2
      exact ⟨_, _, _, _, _, _, _, _, _, _, _, _, _, _, _, _, _, rfl, (hI.stay (hI.below.alloc hI.below.size _) (Stay.alloc _ _ _) (hI.b2.alloc _)).up1 ⟨W.heap.size, rfl, by have := hI.b2.lt; omega, Blk.new _ _ _⟩⟩
    · obtain rfl := Option.some.inj ho
      have d1 := getD_up (hd ⟨1, .data⟩ (by simp) (by rfl))
      obtain ⟨g', e, n, b⟩ := hI.r1 d1
      subst e
      refine wpOp_of_list (by rfl) ?_
      go_wp2
      exact ⟨_, _, _, _, _, _, _, _, _, _, _, _, _, _, _, _, _, rfl, hI.up2 ⟨g', rfl, n, b⟩⟩
    · obtain rfl := Option.some.inj ho
      have d2 := getD_up (hd ⟨2, .data⟩ (by simp) (by rfl))
      obtain ⟨g', e, n, b⟩ := hI.r2 d2
      subst e
      refine wpOp_of_list (by rfl) ?_
      go_wp2
      exact ⟨_, _, _, _, _, _, _, _, _, _, _, _, _, _, _, _, _, rfl, (hI.stay (hI.below.alloc hI.below.size _) (Stay.alloc _ _ _) (hI.b2.alloc _)).up3 ⟨W.heap.size, g', rfl, by have := hI.b2.lt; omega, Blk.new _ _ _, n, b.alloc _⟩⟩
    · obtain rfl := Option.some.inj ho
      refine wpOp_of_list (by rfl) ?_
      go_wp2
      exact ⟨_, _, _, _, _, _, _, _, _, _, _, _, _, _, _, _, _, rfl, hI.up4 rfl⟩
    · obtain rfl := Option.some.inj ho
      refine wpOp_of_list (by rfl) ?_
      go_wp2
      exact ⟨_, _, _, _, _, _, _, _, _, _, _, _, _, _, _, _, _, rfl, hI.up5 rfl⟩
    · obtain rfl := Option.some.inj ho
      have d5 := getD_up (hd ⟨5, .data⟩ (by simp) (by rfl))
      have e := hI.r5 d5
      subst e
      refine wpOp_of_list (by rfl) ?_
      go_wp2_with fail
      go_at_call 27; refine (at22_c _ _ _ _).mono ?_; rintro e w' ⟨rfl, xq, rfl⟩
      go_wp2
      exact ⟨_, _, _, _, _, _, _, _, _, _, _, _, _, _, _, _, _, rfl, (hI.stay (grow_ext _ hI.below) (Stay.ext _ _ _) (hI.b2.ext _)).up6 rfl⟩
    · obtain rfl := Option.some.inj ho
      have d4 := getD_up (hd ⟨4, .data⟩ (by simp) (by rfl))
      have d6 := getD_up (hd ⟨6, .data⟩ (by simp) (by rfl))
      have e4 := hI.r4 d4
      have e6 := hI.r6 d6
      subst e4 e6
      refine wpOp_of_list (by rfl) ?_
      go_wp2
      exact ⟨_, _, _, _, _, _, _, _, _, _, _, _, _, _, _, _, _, rfl, hI.up7 rfl⟩
    · obtain rfl := Option.some.inj ho
      have d7 := getD_up (hd ⟨7, .data⟩ (by simp) (by rfl))
      have e := hI.r7 d7
      subst e
      refine wpOp_of_list (by rfl) ?_
      go_wp2
      exact ⟨_, _, _, _, _, _, _, _, _, _, _, _, _, _, _, _, _, rfl, (hI.stay (hI.below.alloc hI.below.size _) (Stay.alloc _ _ _) (hI.b2.alloc _)).up8 ⟨W.heap.size, rfl, by have := hI.b2.lt; omega, Blk.new _ _ _⟩⟩
    · obtain rfl := Option.some.inj ho
      have d0 := getD_up (hd ⟨0, .data⟩ (by simp) (by rfl))
      have e := hI.r0 d0
      subst e
      have c0 : W.cell? ⟨w.heap.size, 0, none⟩ = some (a0) := hI.b2.cell 0
      have c1 : W.cell? ⟨w.heap.size, 1, none⟩ = some (a1) := hI.b2.cell 1
      have c2 : W.cell? ⟨w.heap.size, 2, none⟩ = some (a2) := hI.b2.cell 2
      have c3 : W.cell? ⟨w.heap.size, 3, none⟩ = some (a3) := hI.b2.cell 3
      have c4 : W.cell? ⟨w.heap.size, 4, none⟩ = some (a4) := hI.b2.cell 4
      have c5 : W.cell? ⟨w.heap.size, 5, none⟩ = some (a5) := hI.b2.cell 5
      have f0 : W.frozen? ⟨w.heap.size, 0, none⟩ = false := hI.b2.frozen 0
      have f1 : W.frozen? ⟨w.heap.size, 1, none⟩ = false := hI.b2.frozen 1
      have f2 : W.frozen? ⟨w.heap.size, 2, none⟩ = false := hI.b2.frozen 2
      have f3 : W.frozen? ⟨w.heap.size, 3, none⟩ = false := hI.b2.frozen 3
      have f4 : W.frozen? ⟨w.heap.size, 4, none⟩ = false := hI.b2.frozen 4
      have f5 : W.frozen? ⟨w.heap.size, 5, none⟩ = false := hI.b2.frozen 5
      refine wpOp_of_list (by rfl) ?_
      go_wp2
      exact ⟨_, _, _, _, _, _, _, _, _, _, _, _, _, _, _, _, _, rfl, hI.put9 ((((((hI.below.setCell (Nat.le_refl _) _).setCell (Nat.le_refl _) _).setCell (Nat.le_refl _) _).setCell (Nat.le_refl _) _).setCell (Nat.le_refl _) _).setCell (Nat.le_refl _) _) (fun k _ hne => by rw [Below.heap_setCell _ _ _ k hne, Below.heap_setCell _ _ _ k hne, Below.heap_setCell _ _ _ k hne, Below.heap_setCell _ _ _ k hne, Below.heap_setCell _ _ _ k hne, Below.heap_setCell _ _ _ k hne]) ((((((hI.b2.set 0 _).set 1 _).set 2 _).set 3 _).set 4 _).set 5 _) rfl⟩
    · obtain rfl := Option.some.inj ho
      have d3 := getD_up (hd ⟨3, .data⟩ (by simp) (by rfl))
      refine wpOp_of_list (by rfl) ?_
      go_wp2
      exact ⟨_, _, _, _, _, _, _, _, _, _, _, _, _, _, _, _, _, rfl, hI.up10 (hI.r3 d3)⟩
    · obtain rfl := Option.some.inj ho
      have d8 := getD_up (hd ⟨8, .data⟩ (by simp) (by rfl))
      refine wpOp_of_list (by rfl) ?_
      go_wp2
      exact ⟨_, _, _, _, _, _, _, _, _, _, _, _, _, _, _, _, _, rfl, hI.up11 (hI.r8 d8)⟩
  · rintro L a W ⟨s3, s4, s11, s12, s13, s14, s15, s16, s17, s18, s19, a0, a1, a2, a3, a4, a5, rfl, hI⟩ hall
    clear hgB hg5
    obtain ⟨gb, gd, eb, nb, hb, nd, hd⟩ := hI.r10 (hall 10 (by decide))
    obtain ⟨gr, er, nr, hr⟩ := hI.r11 (hall 11 (by decide))
    have h9 := hI.r9 (hall 9 (by decide))
    subst eb er
    simp only [Array.mk.injEq, List.cons.injEq, and_true] at h9
    obtain ⟨rfl, rfl, rfl, rfl, rfl, rfl⟩ := h9
    have HB := Lib.hid hb
    have HD := Lib.hid hd
    have HR := Lib.hid hr
    have HI := Lib.hid hI
    have c0 : W.cell? ⟨w.heap.size, 0, none⟩ = some (.string ⟨#[109]⟩) := hI.b2.cell 0
    have c1 : W.cell? ⟨w.heap.size, 1, none⟩ = some (.slice (some ⟨gB, 0, none⟩) 1 1) := hI.b2.cell 1
    have c2 : W.cell? ⟨w.heap.size, 2, none⟩ = some (.slice none 0 0) := hI.b2.cell 2
    have c3 : W.cell? ⟨w.heap.size, 3, none⟩ = some (.int .i64 0) := hI.b2.cell 3
    have c4 : W.cell? ⟨w.heap.size, 4, none⟩ = some (.int .i64 16) := hI.b2.cell 4
    have c5 : W.cell? ⟨w.heap.size, 5, none⟩ = some (.int .i64 50) := hI.b2.cell 5
    clear hb hd hr hI hall nb nd nr
    go_wp2
    refine bodyPost_ret (v := .tuple #[.agg #[.string ⟨#[109]⟩, .slice (some ⟨gB, 0, none⟩) 1 1, .slice none 0 0, .int .i64 0, .int .i64 16, .int .i64 50], .slice (some ⟨gb, 0, none⟩) 1 1, .slice (some ⟨gr, 0, none⟩) 1 1]) (by simp [results, Tryz.results46, go_sem, c0, c1, c2, c3, c4, c5]) rfl ?_
    refine ⟨.slice (some ⟨gB, 0, none⟩) 1 1, .slice (some ⟨gd, 0, none⟩) 1 1, _, _, rfl, ⟨show (1 : Nat) ≤ _ by decide, ⟨_, 1, rfl, by simp [exQ22], by decide, fun i hi => ?_⟩, ⟨none, 0, rfl, Nat.le_refl _, by decide, fun i h => absurd h (Nat.not_lt_zero _)⟩⟩, ⟨_, 1, rfl, by simp, by decide, fun i hi => ?_⟩, ⟨_, 1, rfl, by simp, by decide, fun i hi => ?_⟩, ext_of HI.out.below⟩
    · obtain rfl : i = 0 := by simp [exQ22] at hi; omega
      exact ⟨gB, 0, rfl, HI.out.bB.cell 0, HI.out.bB.cell 1, HI.out.bB.cell 2, HI.out.bB.cell 3, HI.out.bB.cell 4, HI.out.bB.cell 5⟩
    · obtain rfl : i = 0 := by simp at hi; omega
      refine ⟨⟨(show (1 : Nat) ≤ 9223372036854775807 from by decide), ⟨_, 1, rfl, by simp [exBar22], by decide, fun j hj => ?_⟩⟩, gb, 0, rfl, HB.out.cell 0, HB.out.cell 1, HB.out.cell 2, HB.out.cell 3, HB.out.cell 4⟩
      obtain rfl : j = 0 := by simp [exBar22] at hj; omega
      exact ⟨gd, 0, rfl, HD.out.cell 0⟩
    · obtain rfl : i = 0 := by simp at hi; omega
      exact ⟨(show (1 : Nat) ≤ 9223372036854775807 from by decide), gr, 0, rfl, HR.out.cell 0, HR.out.cell 1, HR.out.cell 2, HR.out.cell 3, HR.out.cell 4, HR.out.cell 5, HR.out.cell 6, HR.out.cell 7, HR.out.cell 8, HR.out.cell 9⟩

end Go.Proofs.YtmoechhfjmemaaaGreat

namespace Go.Proofs.YtmoechhfjmemaaaGreat
open Go.RowKit
set_option maxRecDepth 20000

/-- A member's cells, one by one. -/
def MCells22 (w : World) (g : Nat) (name : ByteArray) (u t : Value) (c a p : Int) : Prop := w.cell? ⟨g, 0, none⟩ = some (.string name) ∧ w.cell? ⟨g, 1, none⟩ = some u ∧ w.cell? ⟨g, 2, none⟩ = some t ∧ w.cell? ⟨g, 3, none⟩ = some (.int .i64 c) ∧ w.cell? ⟨g, 4, none⟩ = some (.int .i64 a) ∧ w.cell? ⟨g, 5, none⟩ = some (.int .i64 p)
theorem MCells22.ext {w : World} {g : Nat} {name : ByteArray} {u t : Value} {c a p : Int} (h : MCells22 w g name u t c a p) (x : World) : MCells22 (ext w x) g name u t c a p :=
  ⟨cell_ext_some h.1 x, cell_ext_some h.2.1 x, cell_ext_some h.2.2.1 x, cell_ext_some h.2.2.2.1 x, cell_ext_some h.2.2.2.2.1 x, cell_ext_some h.2.2.2.2.2 x⟩
theorem below22 {w W W' : World} (h : Below w.heap.size w W) (h2 : Below W.heap.size W W') : Below w.heap.size w W' := h.trans (h2.mono h.size)
set_option maxRecDepth 100000 in
set_option maxHeartbeats 8000000 in
theorem awake22_c (w : World) : Calls Tryz.prog 11 #[] w (Ret w (.bool true)) := by
  have HC := Lib.hid (fun u w hq => pColumn_v (exQ22 u) ⟨100, 100, 50⟩ _ _ (ex_column u) w hq)
  have HF := Lib.hid (fun u d v r w hq hl hr => pFree_v (exQ22 u) [exBar22 d] [exRun22 60] ⟨100, 100, 50⟩ v r _ _ (ex_free u d) w hq hl hr)
  have HG := Lib.hid (fun u d v r w hq hl hr => pFree_v (exQ22 u) [exBar22 d] [exRun22 71] ⟨100, 100, 50⟩ v r _ _ (ex_held u d) w hq hl hr)
  go_enter Tryz.func11, Tryz.ntmps11
  go_wp2_with fail
  go_at_call 46; refine (example22_c 60 _).mono ?_; rintro e w' ⟨u, d, v, r, rfl, hq, hl, hr, x1, rfl⟩
  have HC := Lib.hid (HC.out u)
  have HF := Lib.hid (HF.out u d)
  have HG := Lib.hid (HG.out u d)
  generalize exQ22 u = q at *
  generalize [exRun22 60] = R at *
  generalize [exBar22 d] = L at *
  have HQ := Lib.hid hq
  have HL := Lib.hid hl
  have HR := Lib.hid hr
  obtain ⟨ua, uc, eu, -, -, -⟩ := hq.boxes.shape
  obtain ⟨ta, tc, et, -, -, -⟩ := hq.holes.shape
  clear hq hl hr
  obtain ⟨name, bl, ml, bu, bt, cover, agg, pk⟩ := q
  simp only at *
  subst eu et
  go_upto_region 2 with fail
  go_cut [4, 5] (fun s4 s5 wx => ∃ g4, s4 = .pointer (some ⟨g4, 0, none⟩) ∧ s5 = .int .i64 0 ∧ BoxAt wx g4 0 ⟨75, 75, 50, 125, 125, 300⟩ ∧ MCells22 wx (w.heap.size + x1.heap.size) name (.slice ua bl.length uc) (.slice ta ml.length tc) cover agg pk ∧ (ext w x1).heap.size ≤ wx.heap.size ∧ Below (ext w x1).heap.size (ext w x1) wx)
  case first =>
    go_region_with (first
      | (go_at_call 27; refine (at22_c _ _ _ _).mono ?_; rintro e w' ⟨rfl, xq, rfl⟩)
      | (go_at_call 13; refine (HC.out _ (HQ.out.below (by (repeat (first | exact grow_refl _ | refine grow_ext _ ?_ | refine grow_alloc _ ?_ | refine grow_drew ?_))))).mono ?_; rintro e w' ⟨rfl, xc, rfl⟩))
    all_goals
      go_wp2_with fail
      go_meet
      exact ⟨_, rfl, rfl, by simp [BoxAt, go_sem], by simp [MCells22, go_sem], by simp only [size_ext, World.size_alloc]; omega, by (repeat (first | exact grow_refl _ | refine grow_ext _ ?_ | refine grow_alloc _ ?_ | refine grow_drew ?_))⟩
  case rest =>
    obtain ⟨g4, rfl, rfl, hb4, hm1, hs1, hbl⟩ := hcut
    obtain ⟨W1, rfl⟩ : ∃ W : World, W = wc := ⟨_, rfl⟩
    have HQ1 := Lib.hid (HQ.out.below hbl)
    have HL1 := Lib.hid (HL.out.below hbl)
    have HR1 := Lib.hid (HR.out.below hbl)
    have HB4 := Lib.hid hb4
    have HM1 := Lib.hid hm1
    have HBW := Lib.hid (show Below w.heap.size w W1 from Below.trans (below_ext w x1) (hbl.mono (by rw [size_ext]; omega)))
    obtain ⟨b0, b1, b2, b3, b4, b5⟩ := hb4
    obtain ⟨m0, m1, m2, m3, m4, m5⟩ := hm1
    simp only [Nat.zero_add] at b1 b2 b3 b4 b5
    clear hs1 hbl HQ HL HR HC
    go_wp2_with fail
    refine wp_region_grows (by kernel_rfl) (by kernel_rfl) ?_
    repeat (go_big_quiet_step ((first | (go_at_call 27; exact Calls.quiet_ext (at22_c _ _ _ _)) | (go_at_call 14; exact Calls.quiet_ext (HF.out _ _ _ (HQ1.out.below (by (repeat (first | exact grow_refl _ | refine grow_ext _ ?_ | refine grow_alloc _ ?_ | refine grow_drew ?_)))) (HL1.out.below (by (repeat (first | exact grow_refl _ | refine grow_ext _ ?_ | refine grow_alloc _ ?_ | refine grow_drew ?_)))) (HR1.out.below (by (repeat (first | exact grow_refl _ | refine grow_ext _ ?_ | refine grow_alloc _ ?_ | refine grow_drew ?_)))))))))
    refine wpQuiet_nil ?_; rintro _ ⟨xq, rfl⟩
    go_wp2_with fail
    go_at_call 46; refine (example22_c 71 _).mono ?_; rintro e w' ⟨u2, d2, v2, r2, rfl, hq2, hl2, hr2, x2, rfl⟩
    clear b0 b1 b2 b3 b4 b5 m0 m1 m2 m3 m4 m5
    obtain ⟨b0, b1, b2, b3, b4, b5⟩ := (HB4.out.ext xq).ext x2
    obtain ⟨m0, m1, m2, m3, m4, m5⟩ := (HM1.out.ext xq).ext x2
    simp only [Nat.zero_add] at b1 b2 b3 b4 b5
    generalize exQ22 u2 = q2 at *
    have HR2 := Lib.hid hr2
    obtain ⟨ua2, uc2, eu2, -, -, -⟩ := hq2.boxes.shape
    obtain ⟨ta2, tc2, et2, -, -, -⟩ := hq2.holes.shape
    clear hq2 hl2 hr2
    obtain ⟨name2, bl2, ml2, bu2, bt2, cover2, agg2, pk2⟩ := q2
    simp only at *
    subst eu2 et2
    go_wp2_with fail
    refine wp_region_grows (by kernel_rfl) (by kernel_rfl) ?_
    repeat (go_big_quiet_step ((first | (go_at_call 27; exact Calls.quiet_ext (at22_c _ _ _ _)) | (go_at_call 14; exact Calls.quiet_ext (HG.out _ _ _ (HQ1.out.below (by (repeat (first | exact grow_refl _ | refine grow_ext _ ?_ | refine grow_alloc _ ?_ | refine grow_drew ?_)))) (HL1.out.below (by (repeat (first | exact grow_refl _ | refine grow_ext _ ?_ | refine grow_alloc _ ?_ | refine grow_drew ?_)))) (HR2.out.below (by (repeat (first | exact grow_refl _ | refine grow_ext _ ?_ | refine grow_alloc _ ?_ | refine grow_drew ?_)))))))))
    refine wpQuiet_nil ?_; rintro _ ⟨xq, rfl⟩
    go_wp2_with fail
    refine wp_region_grows (by kernel_rfl) (by kernel_rfl) ?_
    repeat (go_big_quiet_step ((go_at_call 27; exact Calls.quiet_ext (at22_c _ _ _ _))))
    refine wpQuiet_nil ?_; rintro _ ⟨xq, rfl⟩
    go_wp2
    go_ret
    exact Ret.of (below22 HBW.out (by (repeat (first | exact grow_refl _ | refine grow_ext _ ?_ | refine grow_alloc _ ?_ | refine grow_drew ?_))))

end Go.Proofs.YtmoechhfjmemaaaGreat


/- The volume of a solid: solid.Volume. -/
import Derived.Test.YtafkibnkpcmmgaaSolH
import Derived.RangeFuncBox
namespace Go.Proofs.Ytafkibnkpcmmgaa
open Go.RowKit
attribute [local go_sem] Oper.semAt_some

def volR (l m : List Bx) : Int × Int := if solidB l m = true then (if volI l m ≤ 1152921504606846976 then (volI l m, 0) else (0, 5)) else (0, 1)
def sumT (xs : List Thick) : Int := sumL volB (xs.map (·.1))
def volV (xs : List Thick) : Value := .int .u64 (IntKind.u64.wrap (sumT xs))

theorem u64_in {n : Int} (h : 0 ≤ n ∧ n ≤ 18446744073709551615) : IntKind.u64.wrap n = n := by rw [IntKind.wrap_u64]; omega
theorem i64_in' {n : Int} (h : -9223372036854775808 ≤ n ∧ n ≤ 9223372036854775807) : wrap64 n = n := by unfold wrap64; omega
theorem vol_step {s a b c : Int} (ha : 0 ≤ a ∧ a ≤ 2097152) (hb : 0 ≤ b ∧ b ≤ 2097152) (hc : 0 ≤ c ∧ c ≤ 2097152) :
    IntKind.u64.wrap (IntKind.u64.wrap s + IntKind.u64.wrap (IntKind.u64.wrap (IntKind.u64.wrap (wrap64 a) * IntKind.u64.wrap (wrap64 b)) * IntKind.u64.wrap (wrap64 c))) = IntKind.u64.wrap (s + a * b * c) := by
  have p1 : 0 ≤ a * b := Int.mul_nonneg ha.1 hb.1
  have p2 : a * b ≤ 4398046511104 := Int.le_trans (Int.mul_le_mul ha.2 hb.2 hb.1 (by omega)) (by decide)
  have p3 : 0 ≤ a * b * c := Int.mul_nonneg p1 hc.1
  have p4 : a * b * c ≤ 9223372036854775808 := Int.le_trans (Int.mul_le_mul p2 hc.2 hc.1 (by omega)) (by decide)
  rw [i64_in' (n := a) (by omega), i64_in' (n := b) (by omega), i64_in' (n := c) (by omega), u64_in (n := a) (by omega), u64_in (n := b) (by omega), u64_in (n := c) (by omega), u64_in (n := a * b) (by omega), u64_in (n := a * b * c) (by omega)]
  generalize a * b * c = v
  rw [IntKind.wrap_u64, IntKind.wrap_u64, IntKind.wrap_u64, Int.emod_add_emod]
theorem sumT_snoc (pre : List Thick) (x : Thick) : sumT (pre ++ [x]) = sumT pre + (x.1.hx - x.1.lx) * (x.1.hy - x.1.ly) * (x.1.hz - x.1.lz) := by
  unfold sumT
  rw [List.map_append, sumL_append]
  simp only [List.map_cons, List.map_nil, sumL, volB]
  omega

/-- Block B is a box of the call's own. -/
def BoxedX (W : World) (B : Nat) (b : Bx) : Prop := W.heap[B]? = some (.cells #[.int .i64 b.lx, .int .i64 b.ly, .int .i64 b.lz, .int .i64 b.hx, .int .i64 b.hy, .int .i64 b.hz] 28)
theorem BoxedX.kept {W W' : World} {row : Option Nat} {B : Nat} {b : Bx} (h : BoxedX W B b) (hg : W.grownBy W' row) (hr : ∀ r, row = some r → ∃ o : Obj, W.heap[r]? = some o ∧ o.isCells = false) : BoxedX W' B b :=
  (hg.block B (Array.getElem?_eq_some_iff.1 h).1 (fun e => by obtain ⟨o, ho, hc⟩ := hr B e.symm; rw [show W.heap[B]? = _ from h] at ho; cases ho; cases hc)).trans h
theorem BoxedX.cells {W : World} {B : Nat} {b : Bx} (h : BoxedX W B b) : W.cell? ⟨B, 0, none⟩ = some (.int .i64 b.lx) ∧ W.cell? ⟨B, 1, none⟩ = some (.int .i64 b.ly) ∧ W.cell? ⟨B, 2, none⟩ = some (.int .i64 b.lz) ∧
    W.cell? ⟨B, 3, none⟩ = some (.int .i64 b.hx) ∧ W.cell? ⟨B, 4, none⟩ = some (.int .i64 b.hy) ∧ W.cell? ⟨B, 5, none⟩ = some (.int .i64 b.hz) := by
  refine ⟨?_, ?_, ?_, ?_, ?_, ?_⟩ <;> simp [World.cell?, show W.heap[B]? = _ from h]
theorem enters_vol1 : Enters 50 := enters_of Try.func50 (by decide) (by simp [Try.f50])
theorem keeps_set {n₀ g : Nat} (hn : n₀ ≤ g) (W : World) (u : Value) : KpT n₀ g W (W.setCell ⟨g, 0, none⟩ u) := fun M =>
  ⟨(Below.refl _ _).setCell (p := ⟨g, 0, none⟩) hn u, by simp [World.setCell], fun k _ hk _ => heap_setCell_other W ⟨g, 0, none⟩ k u hk⟩

set_option maxRecDepth 100000 in
set_option maxHeartbeats 4000000 in
theorem volume_c (l m : List Bx) (u t : Value) (w : World) (hl : Boxes w u l) (hm : Boxes w t m) :
    Calls Try.prog 18 #[.agg #[u, t]] w (Ret w (.tuple #[.int .i64 (volR l m).1, .int .i64 (volR l m).2])) := by
  have HL := Lib.hid hl
  have HM := Lib.hid hm
  clear hl hm
  cases hv : solidB l m
  · have HR := Lib.hid (show volR l m = (0, 1) by unfold volR; rw [hv]; rfl)
    have HV := Lib.hid hv
    clear hv
    go_enter Try.func18, Try.ntmps18
    go_wp2_with fail
    go_at_call 30; refine (solidValid_v l m _ _ _ HV.out _ (HL.out.below (by (repeat (first | exact grow_refl _ | refine grow_ext _ ?_ | refine grow_alloc _ ?_ | refine grow_drew ?_)))) (HM.out.below (by (repeat (first | exact grow_refl _ | refine grow_ext _ ?_ | refine grow_alloc _ ?_ | refine grow_drew ?_))))).mono ?_; rintro e w' ⟨rfl, x1, rfl⟩
    go_wp2
    go_ret2
    rw [HR.out]
    exact Ret.of (by (repeat (first | exact grow_refl _ | refine grow_ext _ ?_ | refine grow_alloc _ ?_ | refine grow_drew ?_)))
  · have HR := Lib.hid (show volR l m = (if volI l m ≤ 1152921504606846976 then (volI l m, 0) else (0, 5)) by unfold volR; rw [hv]; rfl)
    have HV := Lib.hid hv
    clear hv
    refine (callsIn_wide (n := 3)).1 (callsIn_of_wp_marks Try.func18 rfl trivial ?_ rfl)
    simp only [Try.ntmps18, List.size_toArray, List.length_cons, List.length_nil, Nat.reduceAdd, Nat.reduceSub, Array.replicate_succ, Array.replicate_zero, List.push_toArray, List.append_toArray, List.nil_append, List.cons_append]
    refine wpIn_wide.2 ?_
    go_wp2_with fail
    go_at_call 30; refine (solidValid_v l m _ _ _ HV.out _ (HL.out.below (by (repeat (first | exact grow_refl _ | refine grow_ext _ ?_ | refine grow_alloc _ ?_ | refine grow_drew ?_)))) (HM.out.below (by (repeat (first | exact grow_refl _ | refine grow_ext _ ?_ | refine grow_alloc _ ?_ | refine grow_drew ?_))))).mono ?_; rintro e w' ⟨rfl, x1, rfl⟩
    go_wp2_with fail
    obtain ⟨g, hg⟩ : ∃ g, g = w.heap.size + 1 + x1.heap.size := ⟨_, rfl⟩
    rw [← hg]
    refine world_mask (fun W => Below w.heap.size w W ∧ g < W.heap.size ∧ W.cell? ⟨w.heap.size, 0, none⟩ = some u ∧ W.cell? ⟨w.heap.size, 1, none⟩ = some t ∧ Boxed W g 77 (.int .u64 0)) _ ?_ ?_
    · refine ⟨by (repeat (first | exact grow_refl _ | refine grow_ext _ ?_ | refine grow_alloc _ ?_ | refine grow_drew ?_)), by rw [hg]; simp [size_ext], by simp [go_sem], by simp [go_sem], ?_⟩
      have := Boxed.new (ext (w.alloc (.cells #[u, t] 24)) x1) 77 (.int .u64 0)
      rw [size_ext, World.size_alloc, ← hg] at this
      exact this
    rintro W0 ⟨hB0, hgW, hu, ht, hbx⟩
    have hwg : w.heap.size < g := by omega
    clear hg
    refine (wpIn_wide (n := 3)).1 (wpIn_rangeFunc_ownH rfl (by omega) (gf := 50) (lb := #[.pointer (some ⟨w.heap.size, 0, none⟩)]) rfl trivial enters_vol1
      (volSeq l m u t w.heap.size w.heap.size g 2 W0 HV.out hB0.size hgW (fun W' h => HL.out.below (hB0.trans h)) (fun W' h => HM.out.below (hB0.trans h)) hu ht) (fun h k => KpT.trans h k) (KpT.book hB0.size) (Below.refl _ _) (fun _ => rfl)
      (fun pre W => Boxed W g 77 (volV pre) ∧ Below w.heap.size w W)
      (fun _ _ _ => False)
      (OwnFrom.and (Own.from (boxed_own g 77 volV) _) (ownFrom_below (Nat.le_refl _) hB0.size))
      (fun _ _ _ _ _ hs _ _ => hs)
      ⟨hbx, hB0⟩
      (fun x a' W => ∃ bx, g < bx ∧ BoxedX W bx x.1 ∧ a' = { tmps := #[.agg #[u, t], .pointer (some ⟨w.heap.size, 0, none⟩), .int .i64 0, .int .i64 0, .pointer (some ⟨g, 0, none⟩), .pointer (some ⟨bx, 0, none⟩), .agg #[u, t], .bool true, .bool false, .func (.func 50) #[] #[.pointer (some ⟨w.heap.size, 0, none⟩)], (.agg #[.int .i64 x.1.lx, .int .i64 x.1.ly, .int .i64 x.1.lz, .int .i64 x.1.hx, .int .i64 x.1.hy, .int .i64 x.1.hz]), undef, undef, undef, undef, undef, undef, undef, undef, undef, undef, undef, undef, undef, undef, undef, undef, undef, undef, undef, undef, undef, undef, undef, undef, undef, undef, undef, undef, undef, undef, undef, undef], defers := [] })
      (fun x a' _ X Y row hs hgr hr => by obtain ⟨bx, h1, h2, h3⟩ := hs; exact ⟨bx, h1, h2.kept hgr (fun r e => (hr r e).2), h3⟩)
      ?assign ?body ?done ?stop)
    case assign =>
      rintro ll pre x W K ⟨hb, hB⟩ hK
      simp only [encT]
      gi_wp2
      exact hK _ _ ((KeepsOthers.alloc _ _).from _) (fun M => Keeps.of_grown hB.size (by (repeat (first | exact grow_refl _ | refine grow_ext _ ?_ | refine grow_alloc _ ?_ | refine grow_drew ?_)))) ⟨hb.alloc _, hB.alloc hB.size _⟩ ⟨W.heap.size, hb.lt, World.alloc_heap_new _ _, rfl⟩
    case body =>
      rintro ll pre x a' W hl ⟨r, hr⟩ ⟨hb, hB⟩ ⟨bx, hbx2, bX, rfl⟩ hlt
      obtain ⟨S, hS⟩ : ∃ S, S = IntKind.u64.wrap (sumT pre) := ⟨_, rfl⟩
      have hb' : Boxed W g 77 (.int .u64 S) := by rw [hS]; exact hb
      have kg := hb'.cell
      have fg := hb'.frozen
      have HS := Lib.hid hS
      have HBX := Lib.hid hb'
      have HB := Lib.hid hB
      obtain ⟨d0, d1, d2, d3, d4, d5⟩ := bX.cells
      have hx := valid_iff.1 (thick_iff.1 x.2).1
      have HX := Lib.hid hx
      clear hS hb hb' hB hx bX hr
      gi_wp2
      refine ⟨(KeepsOthers.setCell _ _ _).from _, keeps_set (by omega) _ _, ?_, HB.out.setCell (p := ⟨g, 0, none⟩) (by simp; omega) _⟩
      have hx := HX.out
      have hst := vol_step (s := sumT pre) (a := x.1.hx - x.1.lx) (b := x.1.hy - x.1.ly) (c := x.1.hz - x.1.lz) (by omega) (by omega) (by omega)
      unfold volV
      rw [sumT_snoc, ← hst, ← HS.out]
      exact HBX.out.set _
    case done =>
      rintro D xs W hD hS ⟨hb, hB⟩ hK
      have hvol : sumT xs = volI l m := by unfold sumT volI; rw [hS]
      unfold volV at hb
      rw [hvol] at hb
      have h0 := volI_nonneg l m
      have hsi := solid_iff.1 HV.out
      have h1 := volI_le (m := m) hsi.2.2.1 (by rintro rfl; simp at hsi)
      rw [u64_in (n := volI l m) (by omega)] at hb
      have kg := hb.cell
      generalize volI l m = V at *
      have HK := Lib.hid hK
      have HB := Lib.hid hB
      have HBK : Hid (Below w.heap.size w (W.putObj D (.deferred none))) := hB.trans (belowK_b (w := w) (Nat.le_refl _) W D _ _ (by have := hB0.size; omega) hK rfl rfl)
      clear hvol hb hK hB hS hsi hB0
      by_cases hv : V ≤ 1152921504606846976
      · rw [if_pos hv] at HR
        have d1 : decide (1152921504606846976 < V) = false := by simpa using hv
        go_wp2
        refine ⟨by simp, .inl ⟨_, _, rfl, run_takeDeferred HK.out, ?_⟩⟩
        refine ⟨.tuple #[.int .i64 V, .int .i64 0], by simp [results, Try.results18, go_sem], ?_⟩
        rw [HR.out]
        exact ⟨rfl, ext_of HBK.out⟩
      · rw [if_neg hv] at HR
        have d1 : decide (1152921504606846976 < V) = true := by simp; omega
        go_wp2
        refine ⟨by simp, .inl ⟨_, _, rfl, run_takeDeferred HK.out, ?_⟩⟩
        refine ⟨.tuple #[.int .i64 0, .int .i64 5], by simp [results, Try.results18, go_sem], ?_⟩
        rw [HR.out]
        exact ⟨rfl, ext_of HBK.out⟩
    case stop =>
      rintro D c pre W _ _ h _
      exact h.elim

end Go.Proofs.Ytafkibnkpcmmgaa

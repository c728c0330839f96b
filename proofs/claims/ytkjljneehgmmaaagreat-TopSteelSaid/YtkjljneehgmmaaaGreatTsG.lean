/- TopSteel: anchor.Ends. Printed by mktsg.py. -/
import Derived.Test.YtkjljneehgmmaaaGreatAbK4
import Derived.Deep.DeepCutAuto
namespace Go.Proofs.YtkjljneehgmmaaaGreat
set_option linter.unusedVariables false
set_option linter.unusedSimpArgs false
open Go.RowKit
set_option maxRecDepth 20000

def loP (g : Bx) : Bx := ⟨g.lx, g.ly, g.lz, g.lx, g.ly, g.lz⟩
def hiP (g : Bx) : Bx := ⟨g.hx, g.hy, g.hz, g.hx, g.hy, g.hz⟩
def touchB (L : List Bx) (n : Int) (p : Bx) : Bool := if 0 ≤ n ∧ n < L.length then containsB (L.getD n.toNat ⟨0, 0, 0, 0, 0, 0⟩) p else false
def bentB (L : List Bx) (k : Nat) (p : Bx) : Bool := touchB L ((k : Int) - 1) p || touchB L ((k : Int) + 1) p
def endsI (r : Rl) (q : Mb) (b : Br) (L : List Bx) (k : Nat) (g : Bx) : Int × Int := (lengthI r b.size (poorI q g) (bentB L k (loP g)), lengthI r b.size (poorI q g) (bentB L k (hiP g)))
theorem validP {g : Bx} (h : validB g = true) : validB (loP g) = true ∧ validB (hiP g) = true := by
 unfold validB loP hiP at *
 simp only [Bool.and_eq_true, decide_eq_true_eq] at *
 omega
theorem blkNe {w : World} {a b : Nat} {x y : Array Value} {s t : TypeId} (h1 : Blk w a x s) (h2 : Blk w b y t) (hne : s ≠ t) : a ≠ b := fun e => by
 subst e
 unfold Blk at h1 h2
 rw [h1] at h2
 cases h2
 exact hne rfl
theorem size_range {d : Int} (h : sizeB d = true) : 1 ≤ d ∧ d ≤ 50 := by
 rcases size_iff.1 h with rfl | rfl | rfl | rfl | rfl | rfl | rfl | rfl | rfl <;> decide
theorem touch_in {L : List Bx} (n : Nat) (m : Int) (p : Bx) (hm : m = n) (h : n < L.length) : touchB L m p = containsB L[n] p := by
 subst hm
 unfold touchB
 rw [if_pos (by omega), Int.toNat_natCast, ← List.getElem_eq_getD (h := h)]
theorem touch_out {L : List Bx} (m : Int) (p : Bx) (h : ¬ (0 ≤ m ∧ m < L.length)) : touchB L m p = false := by
 unfold touchB
 rw [if_neg h]
theorem BoxAt.below' {w W : World} {b off : Nat} {x : Bx} (h : BoxAt w b off x) (hb : Below w.heap.size w W) : BoxAt W b off x := by
 obtain ⟨y, rfl⟩ := ext_of hb
 exact h.ext y
structure EndsJ (w : World) (r : Rl) (q : Mb) (b : Br) (g : Bx) (gl gE : Nat) (b0 b1 : Bool) (W : World) : Prop where
 below : Below w.heap.size w W
 ru : Blk W w.heap.size #[.int .i64 r.num, .int .i64 r.den, .int .i64 r.pn, .int .i64 r.pd, .int .i64 r.bn, .int .i64 r.bd, .int .i64 r.ln, .int .i64 r.ld, .int .i64 r.least] 32
 mb : Blk W (w.heap.size + 1) #[.string q.name, q.u, q.t, .int .i64 q.cover, .int .i64 q.agg, .int .i64 q.poker] 26
 br : Blk W (w.heap.size + 1 + 1) #[.string b.mark, .int .i64 b.size, .int .i64 b.count, .int .i64 b.code, b.dv] 81
 leg : Blk W gl #[.int .i64 g.lx, .int .i64 g.ly, .int .i64 g.lz, .int .i64 g.hx, .int .i64 g.hy, .int .i64 g.hz] 40
 arr : Blk W gE #[.int .i64 g.lx, .int .i64 g.ly, .int .i64 g.lz, .bool b0, .int .i64 g.hx, .int .i64 g.hy, .int .i64 g.hz, .bool b1] 290
 ge : w.heap.size ≤ gE
section
variable {w W W' : World} {r : Rl} {q : Mb} {b : Br} {g : Bx} {gl gE : Nat} {b0 b1 : Bool}
theorem EndsJ.grows (h : EndsJ w r q b g gl gE b0 b1 W) (hb : Below W.heap.size W W') : EndsJ w r q b g gl gE b0 b1 W' := ⟨h.below.trans (Below.mono hb h.below.size), h.ru.below hb, h.mb.below hb, h.br.below hb, h.leg.below hb, h.arr.below hb, h.ge⟩
theorem EndsJ.set0 (h : EndsJ w r q b g gl gE b0 b1 W) (c : Bool) : EndsJ w r q b g gl gE c b1 (W.setCell ⟨gE, 3, none⟩ (.bool c)) :=
 ⟨h.below.setCell h.ge _, h.ru.other (blkNe h.ru h.arr (by decide)) _, h.mb.other (blkNe h.mb h.arr (by decide)) _, h.br.other (blkNe h.br h.arr (by decide)) _, h.leg.other (blkNe h.leg h.arr (by decide)) _, h.arr.set 3 _, h.ge⟩
theorem EndsJ.set1 (h : EndsJ w r q b g gl gE b0 b1 W) (c : Bool) : EndsJ w r q b g gl gE b0 c (W.setCell ⟨gE, 7, none⟩ (.bool c)) :=
 ⟨h.below.setCell h.ge _, h.ru.other (blkNe h.ru h.arr (by decide)) _, h.mb.other (blkNe h.mb h.arr (by decide)) _, h.br.other (blkNe h.br h.arr (by decide)) _, h.leg.other (blkNe h.leg h.arr (by decide)) _, h.arr.set 7 _, h.ge⟩
end
set_option maxRecDepth 100000 in
set_option maxHeartbeats 16000000 in
theorem anchorEnds_c (r : Rl) (q : Mb) (b : Br) (L : List Bx) (v : Value) (k : Nat) (hk : k < L.length) (hr : ruOk r) (hq : mbB q = true) (hb : shapeB b = true) (hL : ∀ x ∈ L, validB x = true) (hlen : L.length = (legsC b.code).length) (hf : L.findIdx? mainB = some k) (w : World) (hqm : MbAt w q) (hbo : BrOk w b) (hv : Boxes w v L) :
  Calls Tryz.prog 169 #[(.agg #[.int .i64 r.num, .int .i64 r.den, .int .i64 r.pn, .int .i64 r.pd, .int .i64 r.bn, .int .i64 r.bd, .int .i64 r.ln, .int .i64 r.ld, .int .i64 r.least]), (.agg #[.string q.name, q.u, q.t, .int .i64 q.cover, .int .i64 q.agg, .int .i64 q.poker]), (.agg #[.string b.mark, .int .i64 b.size, .int .i64 b.count, .int .i64 b.code, b.dv]), v] w (Ret w (.tuple #[.int .i64 (endsI r q b L k L[k]).1, .int .i64 (endsI r q b L k L[k]).2, .int .i64 0])) := by
 have hsz := size_range (shape_facts hb).2.2.1
 have HV := hd0 (fun w => ruValid_ok r hr w)
 have HM := hd0 (fun w hl hm => solidMember_v q.name q.l q.m q.u q.t q.cover q.agg q.poker true hq hqm.name w hl hm)
 have HSV := hd0 (fun w hb2 => shapeValid_v b true hb w hb2)
 have HLg := hd0 (fun w hb2 => shapeLegs_c b hb w hb2)
 have HQ := hd0 hqm
 have HBO := hd0 hbo
 have HX := hd0 hv
 have HC := hd0 (fun w hv2 => containsFunc_c 220 enters_ends1 #[] (fun _ => false) L v w hv2 (fun y x hy => ends1_ok y (hL y hy) _))
 rw [any_none] at HC
 have HI := hd0 (fun w hv2 => indexFunc_c 221 enters_isMain #[] mainB L v w hv2 (fun y x hy => isMain_c y _))
 rw [hf] at HI
 simp only [Option.map_some, Option.getD_some] at HI
 have HPO := hd0 (fun g w hq2 => poor_c q g w hq2)
 have HLN := hd0 (fun p bt n hn w => length_c r b.size n p bt hr hsz hn w)
 have HVL := hd0 hL
 have hN : (legsN b).length = L.length := by unfold legsN; rw [List.length_map, hlen]
 have HN := hd0 hN
 have hl8 : L.length ≤ 8 := by rw [hlen]; have := (legs_way b.code).1; omega
 obtain ⟨av, cv, rfl, hv2, hv3, h4⟩ := hv.shape
 have H4 := hd0 h4
 clear hr hq hb hL hlen hf hqm hbo hv h4 hN
 have q1 : (0 : Int) ≤ (k : Int) := by omega
 have q2 : (k : Int) < (L.length : Int) := by omega
 have q0 : (L.length : Int) ≤ 8 := by omega
 obtain ⟨bb, off, rfl, c0, c1, c2, c3, c4, c5⟩ := H4.out k hk
 have hgv := HVL.out _ (List.getElem_mem hk)
 generalize L[k] = g at *
 clear hv2 hv3
 go_enter Tryz.func169, Tryz.ntmps169
 go_wp2_with fail
 go_at_call 125; refine (HV.out _).mono ?_; rintro e w' ⟨rfl, x1, rfl⟩
 go_wp2_with fail
 go_at_call 123; refine (HM.out _ (HQ.out.boxes.below gro) (HQ.out.holes.below gro)).mono ?_; rintro e w' ⟨rfl, x2, rfl⟩
 go_wp2_with fail
 go_at_call 189; refine (HSV.out _ (HBO.out.below gro)).mono ?_; rintro e w' ⟨rfl, x3, rfl⟩
 go_wp2_with fail
 go_at_call 219; refine (HC.out _ (HX.out.below gro)).mono ?_; rintro e w' ⟨rfl, x4, rfl⟩
 go_wp2_with fail
 go_at_call 140; refine (HLg.out _ (HBO.out.below gro)).mono ?_; rintro e w' ⟨vl, rfl, hown, x5, rfl⟩
 obtain ⟨al, cl, rfl, -, -, -⟩ := own_shape hown
 have dl : ((((legsN b).length : Nat) : Int) != (L.length : Int)) = false := by rw [HN.out]; simp
 clear hown
 go_wp2_with fail
 go_at_call 68; refine (HI.out _ (HX.out.below gro)).mono ?_; rintro e w' ⟨rfl, x6, rfl⟩
 go_upto_region 11 with fail
 refine world_mask (fun W => EndsJ w r q b g (w.heap.size + 1 + 1 + 1 + x1.heap.size + x2.heap.size + x3.heap.size + x4.heap.size + x5.heap.size + x6.heap.size) (w.heap.size + 1 + 1 + 1 + x1.heap.size + x2.heap.size + x3.heap.size + x4.heap.size + x5.heap.size + x6.heap.size + 1) false false W) _ ⟨gro, ?_, ?_, ?_, ?_, ?_, by omega⟩ ?_
 iterate 5 · (repeat (first | exact Blk.new' (by first | rfl | simp only [World.size_alloc, size_ext]) _ _ | refine Blk.alloc ?_ _ | refine Blk.ext ?_ _))
 clear c0 c1 c2 c3 c4 c5 dl HV HM HSV HLg HC HI HN
 generalize w.heap.size + 1 + 1 + 1 + x1.heap.size + x2.heap.size + x3.heap.size + x4.heap.size + x5.heap.size + x6.heap.size + 1 = gE
 generalize w.heap.size + 1 + 1 + 1 + x1.heap.size + x2.heap.size + x3.heap.size + x4.heap.size + x5.heap.size + x6.heap.size = gl
 intro W1 J
 have HJ := hd0 J
 have HX1 := hd0 (HX.out.below J.below)
 have HQ1 := hd0 (HQ.out.below J.below)
 clear J
 have hvp := validP hgv
 have HB0 := hd0 (show bentB L k (loP g) = (touchB L ((k : Int) - 1) (loP g) || touchB L ((k : Int) + 1) (loP g)) from rfl)
 have HB1 := hd0 (show bentB L k (hiP g) = (touchB L ((k : Int) - 1) (hiP g) || touchB L ((k : Int) + 1) (hiP g)) from rfl)
 rcases Nat.eq_zero_or_pos k with rfl | hpos
 ·have ht0 : touchB L (((0 : Nat) : Int) - 1) (loP g) = false := touch_out _ _ (by simp)
  have ht1 : touchB L (((0 : Nat) : Int) - 1) (hiP g) = false := touch_out _ _ (by simp)
  rw [ht0, Bool.false_or] at HB0
  rw [ht1, Bool.false_or] at HB1
  clear ht0 ht1
  by_cases hnx : 0 + 1 < L.length
  ·obtain ⟨_, _, en, hbn⟩ := H4.out (0 + 1) hnx
   cases en
   have hvn := HVL.out _ (List.getElem_mem hnx)
   have ht0 : touchB L (((0 : Nat) : Int) + 1) (loP g) = containsB (L[0 + 1]'hnx) (loP g) := touch_in _ _ _ (by simp) hnx
   rw [ht0] at HB0
   have ht1 : touchB L (((0 : Nat) : Int) + 1) (hiP g) = containsB (L[0 + 1]'hnx) (hiP g) := touch_in _ _ _ (by simp) hnx
   rw [ht1] at HB1
   clear ht0 ht1
   generalize L[0 + 1] = gn at *
   have HN := hd0 hbn
   have HCn0 := hd0 (fun w => Contains_ok gn (loP g) hvn hvp.1 w)
   have HCn1 := hd0 (fun w => Contains_ok gn (hiP g) hvn hvp.2 w)
   generalize containsB gn (loP g) = tn0 at *
   generalize containsB gn (hiP g) = tn1 at *
   clear hbn hvn
   have q5 : (1 : Int) < (L.length : Int) := by omega
   clear hnx hvp hgv
   go_wp2_with fail
   refine wp_loop_rounds 3 ?_
   rw [rounds_succ]
   go_wp2_with fail
   obtain ⟨gN0, hgN⟩ : ∃ gg, gg = W1.heap.size := ⟨_, rfl⟩
   rw [← hgN]
   refine world_mask (fun W => EndsJ w r q b g gl gE false false W ∧ Blk W gN0 #[.int .i64 (-1), .int .i64 1] 3) _ ⟨HJ.out.grows gro, Blk.new' hgN _ _⟩ ?_
   clear hgN
   rintro W2 ⟨J2, N2⟩
   have HJ2 := hd0 J2
   have HN2 := hd0 N2
   have n0 : W2.cell? ⟨gN0, 0, none⟩ = some (.int .i64 (-1)) := N2.cell 0
   have n1 : W2.cell? ⟨gN0, 1, none⟩ = some (.int .i64 1) := N2.cell 1
   have a3 : W2.cell? ⟨gE, 3, none⟩ = some (.bool false) := J2.arr.cell 3
   have af : W2.frozen? ⟨gE, 3, none⟩ = false := J2.arr.frozen 3
   clear J2 N2
   refine wp_loop_rounds 3 ?_
   rw [rounds_succ]
   go_wp2_with fail
   rw [rounds_succ]
   obtain ⟨z0, z1, z2, z3, z4, z5⟩ := (HN.out.below' HJ2.out.below)
   have e0 := (HJ2.out.arr.cell 0).trans rfl
   have e1 := (HJ2.out.arr.cell 1).trans rfl
   have e2 := (HJ2.out.arr.cell 2).trans rfl
   go_upto_region 18 with fail
   refine wp_region_grows (by kernel_rfl) (by kernel_rfl) ?_
   repeat (go_big_quiet_step ((go_at_call 222; exact Calls.quiet_ext (HCn0.out _))))
   refine wpQuiet_nil ?_; rintro _ ⟨xq, rfl⟩
   go_upto_region 20 with fail
   clear z0 z1 z2 z3 z4 z5 e0 e1 e2
   refine world_mask (fun W => EndsJ w r q b g gl gE tn0 false W ∧ Blk W gN0 #[.int .i64 (-1), .int .i64 1] 3) _ ⟨(HJ2.out.set0 tn0).grows (below_ext _ _), ((HN2.out).other (blkNe HN2.out HJ2.out.arr (by decide)) _).ext _⟩ ?_
   clear n0 n1 a3 af
   rintro W3 ⟨J3, N3⟩
   have HJ3 := hd0 J3
   have HN3 := hd0 N3
   have n0 : W3.cell? ⟨gN0, 0, none⟩ = some (.int .i64 (-1)) := N3.cell 0
   have n1 : W3.cell? ⟨gN0, 1, none⟩ = some (.int .i64 1) := N3.cell 1
   have a3 : W3.cell? ⟨gE, 3, none⟩ = some (.bool tn0) := J3.arr.cell 3
   have af : W3.frozen? ⟨gE, 3, none⟩ = false := J3.arr.frozen 3
   clear J3 N3
   go_wp2_with fail
   rw [rounds_succ]
   clear n0 n1 a3 af
   go_wp2_with fail
   rw [rounds_succ]
   go_wp2_with fail
   obtain ⟨gN1, hgN⟩ : ∃ gg, gg = W3.heap.size := ⟨_, rfl⟩
   rw [← hgN]
   refine world_mask (fun W => EndsJ w r q b g gl gE tn0 false W ∧ Blk W gN1 #[.int .i64 (-1), .int .i64 1] 3) _ ⟨HJ3.out.grows gro, Blk.new' hgN _ _⟩ ?_
   clear hgN
   rintro W4 ⟨J4, N4⟩
   have HJ4 := hd0 J4
   have HN4 := hd0 N4
   have n0 : W4.cell? ⟨gN1, 0, none⟩ = some (.int .i64 (-1)) := N4.cell 0
   have n1 : W4.cell? ⟨gN1, 1, none⟩ = some (.int .i64 1) := N4.cell 1
   have a3 : W4.cell? ⟨gE, 7, none⟩ = some (.bool false) := J4.arr.cell 7
   have af : W4.frozen? ⟨gE, 7, none⟩ = false := J4.arr.frozen 7
   clear J4 N4
   refine wp_loop_rounds 3 ?_
   rw [rounds_succ]
   go_wp2_with fail
   rw [rounds_succ]
   obtain ⟨z0, z1, z2, z3, z4, z5⟩ := (HN.out.below' HJ4.out.below)
   have e0 := (HJ4.out.arr.cell 4).trans rfl
   have e1 := (HJ4.out.arr.cell 5).trans rfl
   have e2 := (HJ4.out.arr.cell 6).trans rfl
   go_upto_region 18 with fail
   refine wp_region_grows (by kernel_rfl) (by kernel_rfl) ?_
   repeat (go_big_quiet_step ((go_at_call 222; exact Calls.quiet_ext (HCn1.out _))))
   refine wpQuiet_nil ?_; rintro _ ⟨xq, rfl⟩
   go_upto_region 20 with fail
   clear z0 z1 z2 z3 z4 z5 e0 e1 e2
   refine world_mask (fun W => EndsJ w r q b g gl gE tn0 tn1 W ∧ Blk W gN1 #[.int .i64 (-1), .int .i64 1] 3) _ ⟨(HJ4.out.set1 tn1).grows (below_ext _ _), ((HN4.out).other (blkNe HN4.out HJ4.out.arr (by decide)) _).ext _⟩ ?_
   clear n0 n1 a3 af
   rintro W5 ⟨J5, N5⟩
   have HJ5 := hd0 J5
   have HN5 := hd0 N5
   have n0 : W5.cell? ⟨gN1, 0, none⟩ = some (.int .i64 (-1)) := N5.cell 0
   have n1 : W5.cell? ⟨gN1, 1, none⟩ = some (.int .i64 1) := N5.cell 1
   have a3 : W5.cell? ⟨gE, 7, none⟩ = some (.bool tn1) := J5.arr.cell 7
   have af : W5.frozen? ⟨gE, 7, none⟩ = false := J5.arr.frozen 7
   clear J5 N5
   go_wp2_with fail
   rw [rounds_succ]
   clear n0 n1 a3 af
   go_wp2_with fail
   rw [rounds_succ]
   have u0 := (HJ5.out.ru.cell 0).trans rfl
   have u1 := (HJ5.out.ru.cell 1).trans rfl
   have u2 := (HJ5.out.ru.cell 2).trans rfl
   have u3 := (HJ5.out.ru.cell 3).trans rfl
   have u4 := (HJ5.out.ru.cell 4).trans rfl
   have u5 := (HJ5.out.ru.cell 5).trans rfl
   have u6 := (HJ5.out.ru.cell 6).trans rfl
   have u7 := (HJ5.out.ru.cell 7).trans rfl
   have u8 := (HJ5.out.ru.cell 8).trans rfl
   have m0 := (HJ5.out.mb.cell 0).trans rfl
   have m1 := (HJ5.out.mb.cell 1).trans rfl
   have m2 := (HJ5.out.mb.cell 2).trans rfl
   have m3 := (HJ5.out.mb.cell 3).trans rfl
   have m4 := (HJ5.out.mb.cell 4).trans rfl
   have m5 := (HJ5.out.mb.cell 5).trans rfl
   have b1 := (HJ5.out.br.cell 1).trans rfl
   have l0 := (HJ5.out.leg.cell 0).trans rfl
   have l1 := (HJ5.out.leg.cell 1).trans rfl
   have l2 := (HJ5.out.leg.cell 2).trans rfl
   have l3 := (HJ5.out.leg.cell 3).trans rfl
   have l4 := (HJ5.out.leg.cell 4).trans rfl
   have l5 := (HJ5.out.leg.cell 5).trans rfl
   have a3 := (HJ5.out.arr.cell 3).trans rfl
   have a7 := (HJ5.out.arr.cell 7).trans rfl
   go_wp2_with fail
   go_at_call 201; refine (HPO.out g _ (HQ.out.below HJ5.out.below)).mono ?_; rintro e w' ⟨rfl, xp, rfl⟩
   go_wp2_with fail
   refine wp_region_grows (by kernel_rfl) (by kernel_rfl) ?_
   repeat (go_big_quiet_step ((go_at_call 223; exact Calls.quiet_ext (HLN.out _ _ _ rfl _))))
   refine wpQuiet_nil ?_; rintro _ ⟨xq, rfl⟩
   go_wp2_with fail
   refine bodyPost_ret (v := .tuple #[.int .i64 (lengthI r b.size (poorI q g) tn0), .int .i64 (lengthI r b.size (poorI q g) tn1), .int .i64 0]) (by simp [results, Tryz.results169, go_sem]) rfl ?_
   unfold endsI
   simp only
   rw [HB0.out, HB1.out]
   exact Ret.of (HJ5.out.below.trans (Below.mono gro HJ5.out.below.size))
  ·have ht0 : touchB L (((0 : Nat) : Int) + 1) (loP g) = false := touch_out _ _ (by omega)
   have ht1 : touchB L (((0 : Nat) : Int) + 1) (hiP g) = false := touch_out _ _ (by omega)
   rw [ht0] at HB0
   rw [ht1] at HB1
   have q5 : ¬ (1 : Int) < (L.length : Int) := by omega
   clear ht0 ht1 hnx hvp hgv
   go_wp2_with fail
   refine wp_loop_rounds 3 ?_
   rw [rounds_succ]
   go_wp2_with fail
   obtain ⟨gN0, hgN⟩ : ∃ gg, gg = W1.heap.size := ⟨_, rfl⟩
   rw [← hgN]
   refine world_mask (fun W => EndsJ w r q b g gl gE false false W ∧ Blk W gN0 #[.int .i64 (-1), .int .i64 1] 3) _ ⟨HJ.out.grows gro, Blk.new' hgN _ _⟩ ?_
   clear hgN
   rintro W2 ⟨J2, N2⟩
   have HJ2 := hd0 J2
   have HN2 := hd0 N2
   have n0 : W2.cell? ⟨gN0, 0, none⟩ = some (.int .i64 (-1)) := N2.cell 0
   have n1 : W2.cell? ⟨gN0, 1, none⟩ = some (.int .i64 1) := N2.cell 1
   have a3 : W2.cell? ⟨gE, 3, none⟩ = some (.bool false) := J2.arr.cell 3
   have af : W2.frozen? ⟨gE, 3, none⟩ = false := J2.arr.frozen 3
   clear J2 N2
   refine wp_loop_rounds 3 ?_
   rw [rounds_succ]
   go_wp2_with fail
   rw [rounds_succ]
   go_wp2_with fail
   rw [rounds_succ]
   clear n0 n1 a3 af
   go_wp2_with fail
   rw [rounds_succ]
   go_wp2_with fail
   obtain ⟨gN1, hgN⟩ : ∃ gg, gg = W2.heap.size := ⟨_, rfl⟩
   rw [← hgN]
   refine world_mask (fun W => EndsJ w r q b g gl gE false false W ∧ Blk W gN1 #[.int .i64 (-1), .int .i64 1] 3) _ ⟨HJ2.out.grows gro, Blk.new' hgN _ _⟩ ?_
   clear hgN
   rintro W3 ⟨J3, N3⟩
   have HJ3 := hd0 J3
   have HN3 := hd0 N3
   have n0 : W3.cell? ⟨gN1, 0, none⟩ = some (.int .i64 (-1)) := N3.cell 0
   have n1 : W3.cell? ⟨gN1, 1, none⟩ = some (.int .i64 1) := N3.cell 1
   have a3 : W3.cell? ⟨gE, 7, none⟩ = some (.bool false) := J3.arr.cell 7
   have af : W3.frozen? ⟨gE, 7, none⟩ = false := J3.arr.frozen 7
   clear J3 N3
   refine wp_loop_rounds 3 ?_
   rw [rounds_succ]
   go_wp2_with fail
   rw [rounds_succ]
   go_wp2_with fail
   rw [rounds_succ]
   clear n0 n1 a3 af
   go_wp2_with fail
   rw [rounds_succ]
   have u0 := (HJ3.out.ru.cell 0).trans rfl
   have u1 := (HJ3.out.ru.cell 1).trans rfl
   have u2 := (HJ3.out.ru.cell 2).trans rfl
   have u3 := (HJ3.out.ru.cell 3).trans rfl
   have u4 := (HJ3.out.ru.cell 4).trans rfl
   have u5 := (HJ3.out.ru.cell 5).trans rfl
   have u6 := (HJ3.out.ru.cell 6).trans rfl
   have u7 := (HJ3.out.ru.cell 7).trans rfl
   have u8 := (HJ3.out.ru.cell 8).trans rfl
   have m0 := (HJ3.out.mb.cell 0).trans rfl
   have m1 := (HJ3.out.mb.cell 1).trans rfl
   have m2 := (HJ3.out.mb.cell 2).trans rfl
   have m3 := (HJ3.out.mb.cell 3).trans rfl
   have m4 := (HJ3.out.mb.cell 4).trans rfl
   have m5 := (HJ3.out.mb.cell 5).trans rfl
   have b1 := (HJ3.out.br.cell 1).trans rfl
   have l0 := (HJ3.out.leg.cell 0).trans rfl
   have l1 := (HJ3.out.leg.cell 1).trans rfl
   have l2 := (HJ3.out.leg.cell 2).trans rfl
   have l3 := (HJ3.out.leg.cell 3).trans rfl
   have l4 := (HJ3.out.leg.cell 4).trans rfl
   have l5 := (HJ3.out.leg.cell 5).trans rfl
   have a3 := (HJ3.out.arr.cell 3).trans rfl
   have a7 := (HJ3.out.arr.cell 7).trans rfl
   go_wp2_with fail
   go_at_call 201; refine (HPO.out g _ (HQ.out.below HJ3.out.below)).mono ?_; rintro e w' ⟨rfl, xp, rfl⟩
   go_wp2_with fail
   refine wp_region_grows (by kernel_rfl) (by kernel_rfl) ?_
   repeat (go_big_quiet_step ((go_at_call 223; exact Calls.quiet_ext (HLN.out _ _ _ rfl _))))
   refine wpQuiet_nil ?_; rintro _ ⟨xq, rfl⟩
   go_wp2_with fail
   refine bodyPost_ret (v := .tuple #[.int .i64 (lengthI r b.size (poorI q g) false), .int .i64 (lengthI r b.size (poorI q g) false), .int .i64 0]) (by simp [results, Tryz.results169, go_sem]) rfl ?_
   unfold endsI
   simp only
   rw [HB0.out, HB1.out]
   exact Ret.of (HJ3.out.below.trans (Below.mono gro HJ3.out.below.size))
 ·obtain ⟨j, rfl⟩ : ∃ j, k = j + 1 := ⟨k - 1, by omega⟩
  have hj : j < L.length := by omega
  obtain ⟨_, _, ep, hbp⟩ := H4.out j hj
  cases ep
  have hvn := HVL.out _ (List.getElem_mem hj)
  have ht0 : touchB L (((j + 1 : Nat) : Int) - 1) (loP g) = containsB (L[j]'hj) (loP g) := touch_in _ _ _ (by simp) hj
  rw [ht0] at HB0
  have ht1 : touchB L (((j + 1 : Nat) : Int) - 1) (hiP g) = containsB (L[j]'hj) (hiP g) := touch_in _ _ _ (by simp) hj
  rw [ht1] at HB1
  clear ht0 ht1
  generalize L[j] = gp at *
  have HP := hd0 hbp
  have HCp0 := hd0 (fun w => Contains_ok gp (loP g) hvn hvp.1 w)
  have HCp1 := hd0 (fun w => Contains_ok gp (hiP g) hvn hvp.2 w)
  generalize containsB gp (loP g) = tp0 at *
  generalize containsB gp (hiP g) = tp1 at *
  have q3 : (0 : Int) ≤ (j : Int) := by omega
  have q4 : (j : Int) < (L.length : Int) := by omega
  clear hbp hvn hpos hj
  by_cases hnx : j + 1 + 1 < L.length
  ·obtain ⟨_, _, en, hbn⟩ := H4.out (j + 1 + 1) hnx
   cases en
   have hvn := HVL.out _ (List.getElem_mem hnx)
   have ht0 : touchB L (((j + 1 : Nat) : Int) + 1) (loP g) = containsB (L[j + 1 + 1]'hnx) (loP g) := touch_in _ _ _ (by simp) hnx
   rw [ht0] at HB0
   have ht1 : touchB L (((j + 1 : Nat) : Int) + 1) (hiP g) = containsB (L[j + 1 + 1]'hnx) (hiP g) := touch_in _ _ _ (by simp) hnx
   rw [ht1] at HB1
   clear ht0 ht1
   generalize L[j + 1 + 1] = gn at *
   have HN := hd0 hbn
   have HCn0 := hd0 (fun w => Contains_ok gn (loP g) hvn hvp.1 w)
   have HCn1 := hd0 (fun w => Contains_ok gn (hiP g) hvn hvp.2 w)
   generalize containsB gn (loP g) = tn0 at *
   generalize containsB gn (hiP g) = tn1 at *
   clear hbn hvn
   have q5 : (j : Int) + 1 + 1 < (L.length : Int) := by omega
   clear hnx hvp hgv
   cases tp0 <;> cases tp1
   ·simp only [Bool.false_or, Bool.true_or] at HB0 HB1
    go_wp2_with fail
    refine wp_loop_rounds 3 ?_
    rw [rounds_succ]
    go_wp2_with fail
    obtain ⟨gN0, hgN⟩ : ∃ gg, gg = W1.heap.size := ⟨_, rfl⟩
    rw [← hgN]
    refine world_mask (fun W => EndsJ w r q b g gl gE false false W ∧ Blk W gN0 #[.int .i64 (j : Int), .int .i64 ((j : Int) + 1 + 1)] 3) _ ⟨HJ.out.grows gro, Blk.new' hgN _ _⟩ ?_
    clear hgN
    rintro W2 ⟨J2, N2⟩
    have HJ2 := hd0 J2
    have HN2 := hd0 N2
    have n0 : W2.cell? ⟨gN0, 0, none⟩ = some (.int .i64 (j : Int)) := N2.cell 0
    have n1 : W2.cell? ⟨gN0, 1, none⟩ = some (.int .i64 ((j : Int) + 1 + 1)) := N2.cell 1
    have a3 : W2.cell? ⟨gE, 3, none⟩ = some (.bool false) := J2.arr.cell 3
    have af : W2.frozen? ⟨gE, 3, none⟩ = false := J2.arr.frozen 3
    clear J2 N2
    refine wp_loop_rounds 3 ?_
    rw [rounds_succ]
    obtain ⟨z0, z1, z2, z3, z4, z5⟩ := (HP.out.below' HJ2.out.below)
    have e0 := (HJ2.out.arr.cell 0).trans rfl
    have e1 := (HJ2.out.arr.cell 1).trans rfl
    have e2 := (HJ2.out.arr.cell 2).trans rfl
    go_upto_region 18 with fail
    refine wp_region_grows (by kernel_rfl) (by kernel_rfl) ?_
    repeat (go_big_quiet_step ((go_at_call 222; exact Calls.quiet_ext (HCp0.out _))))
    refine wpQuiet_nil ?_; rintro _ ⟨xq, rfl⟩
    go_upto_region 20 with fail
    clear z0 z1 z2 z3 z4 z5 e0 e1 e2
    refine world_mask (fun W => EndsJ w r q b g gl gE false false W ∧ Blk W gN0 #[.int .i64 (j : Int), .int .i64 ((j : Int) + 1 + 1)] 3) _ ⟨(HJ2.out.set0 false).grows (below_ext _ _), ((HN2.out).other (blkNe HN2.out HJ2.out.arr (by decide)) _).ext _⟩ ?_
    clear n0 n1 a3 af
    rintro W3 ⟨J3, N3⟩
    have HJ3 := hd0 J3
    have HN3 := hd0 N3
    have n0 : W3.cell? ⟨gN0, 0, none⟩ = some (.int .i64 (j : Int)) := N3.cell 0
    have n1 : W3.cell? ⟨gN0, 1, none⟩ = some (.int .i64 ((j : Int) + 1 + 1)) := N3.cell 1
    have a3 : W3.cell? ⟨gE, 3, none⟩ = some (.bool false) := J3.arr.cell 3
    have af : W3.frozen? ⟨gE, 3, none⟩ = false := J3.arr.frozen 3
    clear J3 N3
    go_wp2_with fail
    rw [rounds_succ]
    obtain ⟨z0, z1, z2, z3, z4, z5⟩ := (HN.out.below' HJ3.out.below)
    have e0 := (HJ3.out.arr.cell 0).trans rfl
    have e1 := (HJ3.out.arr.cell 1).trans rfl
    have e2 := (HJ3.out.arr.cell 2).trans rfl
    go_upto_region 18 with fail
    refine wp_region_grows (by kernel_rfl) (by kernel_rfl) ?_
    repeat (go_big_quiet_step ((go_at_call 222; exact Calls.quiet_ext (HCn0.out _))))
    refine wpQuiet_nil ?_; rintro _ ⟨xq, rfl⟩
    go_upto_region 20 with fail
    clear z0 z1 z2 z3 z4 z5 e0 e1 e2
    refine world_mask (fun W => EndsJ w r q b g gl gE tn0 false W ∧ Blk W gN0 #[.int .i64 (j : Int), .int .i64 ((j : Int) + 1 + 1)] 3) _ ⟨(HJ3.out.set0 tn0).grows (below_ext _ _), ((HN3.out).other (blkNe HN3.out HJ3.out.arr (by decide)) _).ext _⟩ ?_
    clear n0 n1 a3 af
    rintro W4 ⟨J4, N4⟩
    have HJ4 := hd0 J4
    have HN4 := hd0 N4
    have n0 : W4.cell? ⟨gN0, 0, none⟩ = some (.int .i64 (j : Int)) := N4.cell 0
    have n1 : W4.cell? ⟨gN0, 1, none⟩ = some (.int .i64 ((j : Int) + 1 + 1)) := N4.cell 1
    have a3 : W4.cell? ⟨gE, 3, none⟩ = some (.bool tn0) := J4.arr.cell 3
    have af : W4.frozen? ⟨gE, 3, none⟩ = false := J4.arr.frozen 3
    clear J4 N4
    go_wp2_with fail
    rw [rounds_succ]
    clear n0 n1 a3 af
    go_wp2_with fail
    rw [rounds_succ]
    go_wp2_with fail
    obtain ⟨gN1, hgN⟩ : ∃ gg, gg = W4.heap.size := ⟨_, rfl⟩
    rw [← hgN]
    refine world_mask (fun W => EndsJ w r q b g gl gE tn0 false W ∧ Blk W gN1 #[.int .i64 (j : Int), .int .i64 ((j : Int) + 1 + 1)] 3) _ ⟨HJ4.out.grows gro, Blk.new' hgN _ _⟩ ?_
    clear hgN
    rintro W5 ⟨J5, N5⟩
    have HJ5 := hd0 J5
    have HN5 := hd0 N5
    have n0 : W5.cell? ⟨gN1, 0, none⟩ = some (.int .i64 (j : Int)) := N5.cell 0
    have n1 : W5.cell? ⟨gN1, 1, none⟩ = some (.int .i64 ((j : Int) + 1 + 1)) := N5.cell 1
    have a3 : W5.cell? ⟨gE, 7, none⟩ = some (.bool false) := J5.arr.cell 7
    have af : W5.frozen? ⟨gE, 7, none⟩ = false := J5.arr.frozen 7
    clear J5 N5
    refine wp_loop_rounds 3 ?_
    rw [rounds_succ]
    obtain ⟨z0, z1, z2, z3, z4, z5⟩ := (HP.out.below' HJ5.out.below)
    have e0 := (HJ5.out.arr.cell 4).trans rfl
    have e1 := (HJ5.out.arr.cell 5).trans rfl
    have e2 := (HJ5.out.arr.cell 6).trans rfl
    go_upto_region 18 with fail
    refine wp_region_grows (by kernel_rfl) (by kernel_rfl) ?_
    repeat (go_big_quiet_step ((go_at_call 222; exact Calls.quiet_ext (HCp1.out _))))
    refine wpQuiet_nil ?_; rintro _ ⟨xq, rfl⟩
    go_upto_region 20 with fail
    clear z0 z1 z2 z3 z4 z5 e0 e1 e2
    refine world_mask (fun W => EndsJ w r q b g gl gE tn0 false W ∧ Blk W gN1 #[.int .i64 (j : Int), .int .i64 ((j : Int) + 1 + 1)] 3) _ ⟨(HJ5.out.set1 false).grows (below_ext _ _), ((HN5.out).other (blkNe HN5.out HJ5.out.arr (by decide)) _).ext _⟩ ?_
    clear n0 n1 a3 af
    rintro W6 ⟨J6, N6⟩
    have HJ6 := hd0 J6
    have HN6 := hd0 N6
    have n0 : W6.cell? ⟨gN1, 0, none⟩ = some (.int .i64 (j : Int)) := N6.cell 0
    have n1 : W6.cell? ⟨gN1, 1, none⟩ = some (.int .i64 ((j : Int) + 1 + 1)) := N6.cell 1
    have a3 : W6.cell? ⟨gE, 7, none⟩ = some (.bool false) := J6.arr.cell 7
    have af : W6.frozen? ⟨gE, 7, none⟩ = false := J6.arr.frozen 7
    clear J6 N6
    go_wp2_with fail
    rw [rounds_succ]
    obtain ⟨z0, z1, z2, z3, z4, z5⟩ := (HN.out.below' HJ6.out.below)
    have e0 := (HJ6.out.arr.cell 4).trans rfl
    have e1 := (HJ6.out.arr.cell 5).trans rfl
    have e2 := (HJ6.out.arr.cell 6).trans rfl
    go_upto_region 18 with fail
    refine wp_region_grows (by kernel_rfl) (by kernel_rfl) ?_
    repeat (go_big_quiet_step ((go_at_call 222; exact Calls.quiet_ext (HCn1.out _))))
    refine wpQuiet_nil ?_; rintro _ ⟨xq, rfl⟩
    go_upto_region 20 with fail
    clear z0 z1 z2 z3 z4 z5 e0 e1 e2
    refine world_mask (fun W => EndsJ w r q b g gl gE tn0 tn1 W ∧ Blk W gN1 #[.int .i64 (j : Int), .int .i64 ((j : Int) + 1 + 1)] 3) _ ⟨(HJ6.out.set1 tn1).grows (below_ext _ _), ((HN6.out).other (blkNe HN6.out HJ6.out.arr (by decide)) _).ext _⟩ ?_
    clear n0 n1 a3 af
    rintro W7 ⟨J7, N7⟩
    have HJ7 := hd0 J7
    have HN7 := hd0 N7
    have n0 : W7.cell? ⟨gN1, 0, none⟩ = some (.int .i64 (j : Int)) := N7.cell 0
    have n1 : W7.cell? ⟨gN1, 1, none⟩ = some (.int .i64 ((j : Int) + 1 + 1)) := N7.cell 1
    have a3 : W7.cell? ⟨gE, 7, none⟩ = some (.bool tn1) := J7.arr.cell 7
    have af : W7.frozen? ⟨gE, 7, none⟩ = false := J7.arr.frozen 7
    clear J7 N7
    go_wp2_with fail
    rw [rounds_succ]
    clear n0 n1 a3 af
    go_wp2_with fail
    rw [rounds_succ]
    have u0 := (HJ7.out.ru.cell 0).trans rfl
    have u1 := (HJ7.out.ru.cell 1).trans rfl
    have u2 := (HJ7.out.ru.cell 2).trans rfl
    have u3 := (HJ7.out.ru.cell 3).trans rfl
    have u4 := (HJ7.out.ru.cell 4).trans rfl
    have u5 := (HJ7.out.ru.cell 5).trans rfl
    have u6 := (HJ7.out.ru.cell 6).trans rfl
    have u7 := (HJ7.out.ru.cell 7).trans rfl
    have u8 := (HJ7.out.ru.cell 8).trans rfl
    have m0 := (HJ7.out.mb.cell 0).trans rfl
    have m1 := (HJ7.out.mb.cell 1).trans rfl
    have m2 := (HJ7.out.mb.cell 2).trans rfl
    have m3 := (HJ7.out.mb.cell 3).trans rfl
    have m4 := (HJ7.out.mb.cell 4).trans rfl
    have m5 := (HJ7.out.mb.cell 5).trans rfl
    have b1 := (HJ7.out.br.cell 1).trans rfl
    have l0 := (HJ7.out.leg.cell 0).trans rfl
    have l1 := (HJ7.out.leg.cell 1).trans rfl
    have l2 := (HJ7.out.leg.cell 2).trans rfl
    have l3 := (HJ7.out.leg.cell 3).trans rfl
    have l4 := (HJ7.out.leg.cell 4).trans rfl
    have l5 := (HJ7.out.leg.cell 5).trans rfl
    have a3 := (HJ7.out.arr.cell 3).trans rfl
    have a7 := (HJ7.out.arr.cell 7).trans rfl
    go_wp2_with fail
    go_at_call 201; refine (HPO.out g _ (HQ.out.below HJ7.out.below)).mono ?_; rintro e w' ⟨rfl, xp, rfl⟩
    go_wp2_with fail
    refine wp_region_grows (by kernel_rfl) (by kernel_rfl) ?_
    repeat (go_big_quiet_step ((go_at_call 223; exact Calls.quiet_ext (HLN.out _ _ _ rfl _))))
    refine wpQuiet_nil ?_; rintro _ ⟨xq, rfl⟩
    go_wp2_with fail
    refine bodyPost_ret (v := .tuple #[.int .i64 (lengthI r b.size (poorI q g) tn0), .int .i64 (lengthI r b.size (poorI q g) tn1), .int .i64 0]) (by simp [results, Tryz.results169, go_sem]) rfl ?_
    unfold endsI
    simp only
    rw [HB0.out, HB1.out]
    exact Ret.of (HJ7.out.below.trans (Below.mono gro HJ7.out.below.size))
   ·simp only [Bool.false_or, Bool.true_or] at HB0 HB1
    go_wp2_with fail
    refine wp_loop_rounds 3 ?_
    rw [rounds_succ]
    go_wp2_with fail
    obtain ⟨gN0, hgN⟩ : ∃ gg, gg = W1.heap.size := ⟨_, rfl⟩
    rw [← hgN]
    refine world_mask (fun W => EndsJ w r q b g gl gE false false W ∧ Blk W gN0 #[.int .i64 (j : Int), .int .i64 ((j : Int) + 1 + 1)] 3) _ ⟨HJ.out.grows gro, Blk.new' hgN _ _⟩ ?_
    clear hgN
    rintro W2 ⟨J2, N2⟩
    have HJ2 := hd0 J2
    have HN2 := hd0 N2
    have n0 : W2.cell? ⟨gN0, 0, none⟩ = some (.int .i64 (j : Int)) := N2.cell 0
    have n1 : W2.cell? ⟨gN0, 1, none⟩ = some (.int .i64 ((j : Int) + 1 + 1)) := N2.cell 1
    have a3 : W2.cell? ⟨gE, 3, none⟩ = some (.bool false) := J2.arr.cell 3
    have af : W2.frozen? ⟨gE, 3, none⟩ = false := J2.arr.frozen 3
    clear J2 N2
    refine wp_loop_rounds 3 ?_
    rw [rounds_succ]
    obtain ⟨z0, z1, z2, z3, z4, z5⟩ := (HP.out.below' HJ2.out.below)
    have e0 := (HJ2.out.arr.cell 0).trans rfl
    have e1 := (HJ2.out.arr.cell 1).trans rfl
    have e2 := (HJ2.out.arr.cell 2).trans rfl
    go_upto_region 18 with fail
    refine wp_region_grows (by kernel_rfl) (by kernel_rfl) ?_
    repeat (go_big_quiet_step ((go_at_call 222; exact Calls.quiet_ext (HCp0.out _))))
    refine wpQuiet_nil ?_; rintro _ ⟨xq, rfl⟩
    go_upto_region 20 with fail
    clear z0 z1 z2 z3 z4 z5 e0 e1 e2
    refine world_mask (fun W => EndsJ w r q b g gl gE false false W ∧ Blk W gN0 #[.int .i64 (j : Int), .int .i64 ((j : Int) + 1 + 1)] 3) _ ⟨(HJ2.out.set0 false).grows (below_ext _ _), ((HN2.out).other (blkNe HN2.out HJ2.out.arr (by decide)) _).ext _⟩ ?_
    clear n0 n1 a3 af
    rintro W3 ⟨J3, N3⟩
    have HJ3 := hd0 J3
    have HN3 := hd0 N3
    have n0 : W3.cell? ⟨gN0, 0, none⟩ = some (.int .i64 (j : Int)) := N3.cell 0
    have n1 : W3.cell? ⟨gN0, 1, none⟩ = some (.int .i64 ((j : Int) + 1 + 1)) := N3.cell 1
    have a3 : W3.cell? ⟨gE, 3, none⟩ = some (.bool false) := J3.arr.cell 3
    have af : W3.frozen? ⟨gE, 3, none⟩ = false := J3.arr.frozen 3
    clear J3 N3
    go_wp2_with fail
    rw [rounds_succ]
    obtain ⟨z0, z1, z2, z3, z4, z5⟩ := (HN.out.below' HJ3.out.below)
    have e0 := (HJ3.out.arr.cell 0).trans rfl
    have e1 := (HJ3.out.arr.cell 1).trans rfl
    have e2 := (HJ3.out.arr.cell 2).trans rfl
    go_upto_region 18 with fail
    refine wp_region_grows (by kernel_rfl) (by kernel_rfl) ?_
    repeat (go_big_quiet_step ((go_at_call 222; exact Calls.quiet_ext (HCn0.out _))))
    refine wpQuiet_nil ?_; rintro _ ⟨xq, rfl⟩
    go_upto_region 20 with fail
    clear z0 z1 z2 z3 z4 z5 e0 e1 e2
    refine world_mask (fun W => EndsJ w r q b g gl gE tn0 false W ∧ Blk W gN0 #[.int .i64 (j : Int), .int .i64 ((j : Int) + 1 + 1)] 3) _ ⟨(HJ3.out.set0 tn0).grows (below_ext _ _), ((HN3.out).other (blkNe HN3.out HJ3.out.arr (by decide)) _).ext _⟩ ?_
    clear n0 n1 a3 af
    rintro W4 ⟨J4, N4⟩
    have HJ4 := hd0 J4
    have HN4 := hd0 N4
    have n0 : W4.cell? ⟨gN0, 0, none⟩ = some (.int .i64 (j : Int)) := N4.cell 0
    have n1 : W4.cell? ⟨gN0, 1, none⟩ = some (.int .i64 ((j : Int) + 1 + 1)) := N4.cell 1
    have a3 : W4.cell? ⟨gE, 3, none⟩ = some (.bool tn0) := J4.arr.cell 3
    have af : W4.frozen? ⟨gE, 3, none⟩ = false := J4.arr.frozen 3
    clear J4 N4
    go_wp2_with fail
    rw [rounds_succ]
    clear n0 n1 a3 af
    go_wp2_with fail
    rw [rounds_succ]
    go_wp2_with fail
    obtain ⟨gN1, hgN⟩ : ∃ gg, gg = W4.heap.size := ⟨_, rfl⟩
    rw [← hgN]
    refine world_mask (fun W => EndsJ w r q b g gl gE tn0 false W ∧ Blk W gN1 #[.int .i64 (j : Int), .int .i64 ((j : Int) + 1 + 1)] 3) _ ⟨HJ4.out.grows gro, Blk.new' hgN _ _⟩ ?_
    clear hgN
    rintro W5 ⟨J5, N5⟩
    have HJ5 := hd0 J5
    have HN5 := hd0 N5
    have n0 : W5.cell? ⟨gN1, 0, none⟩ = some (.int .i64 (j : Int)) := N5.cell 0
    have n1 : W5.cell? ⟨gN1, 1, none⟩ = some (.int .i64 ((j : Int) + 1 + 1)) := N5.cell 1
    have a3 : W5.cell? ⟨gE, 7, none⟩ = some (.bool false) := J5.arr.cell 7
    have af : W5.frozen? ⟨gE, 7, none⟩ = false := J5.arr.frozen 7
    clear J5 N5
    refine wp_loop_rounds 3 ?_
    rw [rounds_succ]
    obtain ⟨z0, z1, z2, z3, z4, z5⟩ := (HP.out.below' HJ5.out.below)
    have e0 := (HJ5.out.arr.cell 4).trans rfl
    have e1 := (HJ5.out.arr.cell 5).trans rfl
    have e2 := (HJ5.out.arr.cell 6).trans rfl
    go_upto_region 18 with fail
    refine wp_region_grows (by kernel_rfl) (by kernel_rfl) ?_
    repeat (go_big_quiet_step ((go_at_call 222; exact Calls.quiet_ext (HCp1.out _))))
    refine wpQuiet_nil ?_; rintro _ ⟨xq, rfl⟩
    go_upto_region 20 with fail
    clear z0 z1 z2 z3 z4 z5 e0 e1 e2
    refine world_mask (fun W => EndsJ w r q b g gl gE tn0 true W ∧ Blk W gN1 #[.int .i64 (j : Int), .int .i64 ((j : Int) + 1 + 1)] 3) _ ⟨(HJ5.out.set1 true).grows (below_ext _ _), ((HN5.out).other (blkNe HN5.out HJ5.out.arr (by decide)) _).ext _⟩ ?_
    clear n0 n1 a3 af
    rintro W6 ⟨J6, N6⟩
    have HJ6 := hd0 J6
    have HN6 := hd0 N6
    have n0 : W6.cell? ⟨gN1, 0, none⟩ = some (.int .i64 (j : Int)) := N6.cell 0
    have n1 : W6.cell? ⟨gN1, 1, none⟩ = some (.int .i64 ((j : Int) + 1 + 1)) := N6.cell 1
    have a3 : W6.cell? ⟨gE, 7, none⟩ = some (.bool true) := J6.arr.cell 7
    have af : W6.frozen? ⟨gE, 7, none⟩ = false := J6.arr.frozen 7
    clear J6 N6
    go_wp2_with fail
    rw [rounds_succ]
    obtain ⟨z0, z1, z2, z3, z4, z5⟩ := (HN.out.below' HJ6.out.below)
    have e0 := (HJ6.out.arr.cell 4).trans rfl
    have e1 := (HJ6.out.arr.cell 5).trans rfl
    have e2 := (HJ6.out.arr.cell 6).trans rfl
    go_upto_region 18 with fail
    refine wp_region_grows (by kernel_rfl) (by kernel_rfl) ?_
    repeat (go_big_quiet_step ((go_at_call 222; exact Calls.quiet_ext (HCn1.out _))))
    refine wpQuiet_nil ?_; rintro _ ⟨xq, rfl⟩
    go_upto_region 20 with fail
    clear z0 z1 z2 z3 z4 z5 e0 e1 e2
    refine world_mask (fun W => EndsJ w r q b g gl gE tn0 true W ∧ Blk W gN1 #[.int .i64 (j : Int), .int .i64 ((j : Int) + 1 + 1)] 3) _ ⟨(HJ6.out.set1 true).grows (below_ext _ _), ((HN6.out).other (blkNe HN6.out HJ6.out.arr (by decide)) _).ext _⟩ ?_
    clear n0 n1 a3 af
    rintro W7 ⟨J7, N7⟩
    have HJ7 := hd0 J7
    have HN7 := hd0 N7
    have n0 : W7.cell? ⟨gN1, 0, none⟩ = some (.int .i64 (j : Int)) := N7.cell 0
    have n1 : W7.cell? ⟨gN1, 1, none⟩ = some (.int .i64 ((j : Int) + 1 + 1)) := N7.cell 1
    have a3 : W7.cell? ⟨gE, 7, none⟩ = some (.bool true) := J7.arr.cell 7
    have af : W7.frozen? ⟨gE, 7, none⟩ = false := J7.arr.frozen 7
    clear J7 N7
    go_wp2_with fail
    rw [rounds_succ]
    clear n0 n1 a3 af
    go_wp2_with fail
    rw [rounds_succ]
    have u0 := (HJ7.out.ru.cell 0).trans rfl
    have u1 := (HJ7.out.ru.cell 1).trans rfl
    have u2 := (HJ7.out.ru.cell 2).trans rfl
    have u3 := (HJ7.out.ru.cell 3).trans rfl
    have u4 := (HJ7.out.ru.cell 4).trans rfl
    have u5 := (HJ7.out.ru.cell 5).trans rfl
    have u6 := (HJ7.out.ru.cell 6).trans rfl
    have u7 := (HJ7.out.ru.cell 7).trans rfl
    have u8 := (HJ7.out.ru.cell 8).trans rfl
    have m0 := (HJ7.out.mb.cell 0).trans rfl
    have m1 := (HJ7.out.mb.cell 1).trans rfl
    have m2 := (HJ7.out.mb.cell 2).trans rfl
    have m3 := (HJ7.out.mb.cell 3).trans rfl
    have m4 := (HJ7.out.mb.cell 4).trans rfl
    have m5 := (HJ7.out.mb.cell 5).trans rfl
    have b1 := (HJ7.out.br.cell 1).trans rfl
    have l0 := (HJ7.out.leg.cell 0).trans rfl
    have l1 := (HJ7.out.leg.cell 1).trans rfl
    have l2 := (HJ7.out.leg.cell 2).trans rfl
    have l3 := (HJ7.out.leg.cell 3).trans rfl
    have l4 := (HJ7.out.leg.cell 4).trans rfl
    have l5 := (HJ7.out.leg.cell 5).trans rfl
    have a3 := (HJ7.out.arr.cell 3).trans rfl
    have a7 := (HJ7.out.arr.cell 7).trans rfl
    go_wp2_with fail
    go_at_call 201; refine (HPO.out g _ (HQ.out.below HJ7.out.below)).mono ?_; rintro e w' ⟨rfl, xp, rfl⟩
    go_wp2_with fail
    refine wp_region_grows (by kernel_rfl) (by kernel_rfl) ?_
    repeat (go_big_quiet_step ((go_at_call 223; exact Calls.quiet_ext (HLN.out _ _ _ rfl _))))
    refine wpQuiet_nil ?_; rintro _ ⟨xq, rfl⟩
    go_wp2_with fail
    refine bodyPost_ret (v := .tuple #[.int .i64 (lengthI r b.size (poorI q g) tn0), .int .i64 (lengthI r b.size (poorI q g) true), .int .i64 0]) (by simp [results, Tryz.results169, go_sem]) rfl ?_
    unfold endsI
    simp only
    rw [HB0.out, HB1.out]
    exact Ret.of (HJ7.out.below.trans (Below.mono gro HJ7.out.below.size))
   ·simp only [Bool.false_or, Bool.true_or] at HB0 HB1
    go_wp2_with fail
    refine wp_loop_rounds 3 ?_
    rw [rounds_succ]
    go_wp2_with fail
    obtain ⟨gN0, hgN⟩ : ∃ gg, gg = W1.heap.size := ⟨_, rfl⟩
    rw [← hgN]
    refine world_mask (fun W => EndsJ w r q b g gl gE false false W ∧ Blk W gN0 #[.int .i64 (j : Int), .int .i64 ((j : Int) + 1 + 1)] 3) _ ⟨HJ.out.grows gro, Blk.new' hgN _ _⟩ ?_
    clear hgN
    rintro W2 ⟨J2, N2⟩
    have HJ2 := hd0 J2
    have HN2 := hd0 N2
    have n0 : W2.cell? ⟨gN0, 0, none⟩ = some (.int .i64 (j : Int)) := N2.cell 0
    have n1 : W2.cell? ⟨gN0, 1, none⟩ = some (.int .i64 ((j : Int) + 1 + 1)) := N2.cell 1
    have a3 : W2.cell? ⟨gE, 3, none⟩ = some (.bool false) := J2.arr.cell 3
    have af : W2.frozen? ⟨gE, 3, none⟩ = false := J2.arr.frozen 3
    clear J2 N2
    refine wp_loop_rounds 3 ?_
    rw [rounds_succ]
    obtain ⟨z0, z1, z2, z3, z4, z5⟩ := (HP.out.below' HJ2.out.below)
    have e0 := (HJ2.out.arr.cell 0).trans rfl
    have e1 := (HJ2.out.arr.cell 1).trans rfl
    have e2 := (HJ2.out.arr.cell 2).trans rfl
    go_upto_region 18 with fail
    refine wp_region_grows (by kernel_rfl) (by kernel_rfl) ?_
    repeat (go_big_quiet_step ((go_at_call 222; exact Calls.quiet_ext (HCp0.out _))))
    refine wpQuiet_nil ?_; rintro _ ⟨xq, rfl⟩
    go_upto_region 20 with fail
    clear z0 z1 z2 z3 z4 z5 e0 e1 e2
    refine world_mask (fun W => EndsJ w r q b g gl gE true false W ∧ Blk W gN0 #[.int .i64 (j : Int), .int .i64 ((j : Int) + 1 + 1)] 3) _ ⟨(HJ2.out.set0 true).grows (below_ext _ _), ((HN2.out).other (blkNe HN2.out HJ2.out.arr (by decide)) _).ext _⟩ ?_
    clear n0 n1 a3 af
    rintro W3 ⟨J3, N3⟩
    have HJ3 := hd0 J3
    have HN3 := hd0 N3
    have n0 : W3.cell? ⟨gN0, 0, none⟩ = some (.int .i64 (j : Int)) := N3.cell 0
    have n1 : W3.cell? ⟨gN0, 1, none⟩ = some (.int .i64 ((j : Int) + 1 + 1)) := N3.cell 1
    have a3 : W3.cell? ⟨gE, 3, none⟩ = some (.bool true) := J3.arr.cell 3
    have af : W3.frozen? ⟨gE, 3, none⟩ = false := J3.arr.frozen 3
    clear J3 N3
    go_wp2_with fail
    rw [rounds_succ]
    obtain ⟨z0, z1, z2, z3, z4, z5⟩ := (HN.out.below' HJ3.out.below)
    have e0 := (HJ3.out.arr.cell 0).trans rfl
    have e1 := (HJ3.out.arr.cell 1).trans rfl
    have e2 := (HJ3.out.arr.cell 2).trans rfl
    go_upto_region 18 with fail
    refine wp_region_grows (by kernel_rfl) (by kernel_rfl) ?_
    repeat (go_big_quiet_step ((go_at_call 222; exact Calls.quiet_ext (HCn0.out _))))
    refine wpQuiet_nil ?_; rintro _ ⟨xq, rfl⟩
    go_upto_region 20 with fail
    clear z0 z1 z2 z3 z4 z5 e0 e1 e2
    refine world_mask (fun W => EndsJ w r q b g gl gE true false W ∧ Blk W gN0 #[.int .i64 (j : Int), .int .i64 ((j : Int) + 1 + 1)] 3) _ ⟨(HJ3.out.set0 true).grows (below_ext _ _), ((HN3.out).other (blkNe HN3.out HJ3.out.arr (by decide)) _).ext _⟩ ?_
    clear n0 n1 a3 af
    rintro W4 ⟨J4, N4⟩
    have HJ4 := hd0 J4
    have HN4 := hd0 N4
    have n0 : W4.cell? ⟨gN0, 0, none⟩ = some (.int .i64 (j : Int)) := N4.cell 0
    have n1 : W4.cell? ⟨gN0, 1, none⟩ = some (.int .i64 ((j : Int) + 1 + 1)) := N4.cell 1
    have a3 : W4.cell? ⟨gE, 3, none⟩ = some (.bool true) := J4.arr.cell 3
    have af : W4.frozen? ⟨gE, 3, none⟩ = false := J4.arr.frozen 3
    clear J4 N4
    go_wp2_with fail
    rw [rounds_succ]
    clear n0 n1 a3 af
    go_wp2_with fail
    rw [rounds_succ]
    go_wp2_with fail
    obtain ⟨gN1, hgN⟩ : ∃ gg, gg = W4.heap.size := ⟨_, rfl⟩
    rw [← hgN]
    refine world_mask (fun W => EndsJ w r q b g gl gE true false W ∧ Blk W gN1 #[.int .i64 (j : Int), .int .i64 ((j : Int) + 1 + 1)] 3) _ ⟨HJ4.out.grows gro, Blk.new' hgN _ _⟩ ?_
    clear hgN
    rintro W5 ⟨J5, N5⟩
    have HJ5 := hd0 J5
    have HN5 := hd0 N5
    have n0 : W5.cell? ⟨gN1, 0, none⟩ = some (.int .i64 (j : Int)) := N5.cell 0
    have n1 : W5.cell? ⟨gN1, 1, none⟩ = some (.int .i64 ((j : Int) + 1 + 1)) := N5.cell 1
    have a3 : W5.cell? ⟨gE, 7, none⟩ = some (.bool false) := J5.arr.cell 7
    have af : W5.frozen? ⟨gE, 7, none⟩ = false := J5.arr.frozen 7
    clear J5 N5
    refine wp_loop_rounds 3 ?_
    rw [rounds_succ]
    obtain ⟨z0, z1, z2, z3, z4, z5⟩ := (HP.out.below' HJ5.out.below)
    have e0 := (HJ5.out.arr.cell 4).trans rfl
    have e1 := (HJ5.out.arr.cell 5).trans rfl
    have e2 := (HJ5.out.arr.cell 6).trans rfl
    go_upto_region 18 with fail
    refine wp_region_grows (by kernel_rfl) (by kernel_rfl) ?_
    repeat (go_big_quiet_step ((go_at_call 222; exact Calls.quiet_ext (HCp1.out _))))
    refine wpQuiet_nil ?_; rintro _ ⟨xq, rfl⟩
    go_upto_region 20 with fail
    clear z0 z1 z2 z3 z4 z5 e0 e1 e2
    refine world_mask (fun W => EndsJ w r q b g gl gE true false W ∧ Blk W gN1 #[.int .i64 (j : Int), .int .i64 ((j : Int) + 1 + 1)] 3) _ ⟨(HJ5.out.set1 false).grows (below_ext _ _), ((HN5.out).other (blkNe HN5.out HJ5.out.arr (by decide)) _).ext _⟩ ?_
    clear n0 n1 a3 af
    rintro W6 ⟨J6, N6⟩
    have HJ6 := hd0 J6
    have HN6 := hd0 N6
    have n0 : W6.cell? ⟨gN1, 0, none⟩ = some (.int .i64 (j : Int)) := N6.cell 0
    have n1 : W6.cell? ⟨gN1, 1, none⟩ = some (.int .i64 ((j : Int) + 1 + 1)) := N6.cell 1
    have a3 : W6.cell? ⟨gE, 7, none⟩ = some (.bool false) := J6.arr.cell 7
    have af : W6.frozen? ⟨gE, 7, none⟩ = false := J6.arr.frozen 7
    clear J6 N6
    go_wp2_with fail
    rw [rounds_succ]
    obtain ⟨z0, z1, z2, z3, z4, z5⟩ := (HN.out.below' HJ6.out.below)
    have e0 := (HJ6.out.arr.cell 4).trans rfl
    have e1 := (HJ6.out.arr.cell 5).trans rfl
    have e2 := (HJ6.out.arr.cell 6).trans rfl
    go_upto_region 18 with fail
    refine wp_region_grows (by kernel_rfl) (by kernel_rfl) ?_
    repeat (go_big_quiet_step ((go_at_call 222; exact Calls.quiet_ext (HCn1.out _))))
    refine wpQuiet_nil ?_; rintro _ ⟨xq, rfl⟩
    go_upto_region 20 with fail
    clear z0 z1 z2 z3 z4 z5 e0 e1 e2
    refine world_mask (fun W => EndsJ w r q b g gl gE true tn1 W ∧ Blk W gN1 #[.int .i64 (j : Int), .int .i64 ((j : Int) + 1 + 1)] 3) _ ⟨(HJ6.out.set1 tn1).grows (below_ext _ _), ((HN6.out).other (blkNe HN6.out HJ6.out.arr (by decide)) _).ext _⟩ ?_
    clear n0 n1 a3 af
    rintro W7 ⟨J7, N7⟩
    have HJ7 := hd0 J7
    have HN7 := hd0 N7
    have n0 : W7.cell? ⟨gN1, 0, none⟩ = some (.int .i64 (j : Int)) := N7.cell 0
    have n1 : W7.cell? ⟨gN1, 1, none⟩ = some (.int .i64 ((j : Int) + 1 + 1)) := N7.cell 1
    have a3 : W7.cell? ⟨gE, 7, none⟩ = some (.bool tn1) := J7.arr.cell 7
    have af : W7.frozen? ⟨gE, 7, none⟩ = false := J7.arr.frozen 7
    clear J7 N7
    go_wp2_with fail
    rw [rounds_succ]
    clear n0 n1 a3 af
    go_wp2_with fail
    rw [rounds_succ]
    have u0 := (HJ7.out.ru.cell 0).trans rfl
    have u1 := (HJ7.out.ru.cell 1).trans rfl
    have u2 := (HJ7.out.ru.cell 2).trans rfl
    have u3 := (HJ7.out.ru.cell 3).trans rfl
    have u4 := (HJ7.out.ru.cell 4).trans rfl
    have u5 := (HJ7.out.ru.cell 5).trans rfl
    have u6 := (HJ7.out.ru.cell 6).trans rfl
    have u7 := (HJ7.out.ru.cell 7).trans rfl
    have u8 := (HJ7.out.ru.cell 8).trans rfl
    have m0 := (HJ7.out.mb.cell 0).trans rfl
    have m1 := (HJ7.out.mb.cell 1).trans rfl
    have m2 := (HJ7.out.mb.cell 2).trans rfl
    have m3 := (HJ7.out.mb.cell 3).trans rfl
    have m4 := (HJ7.out.mb.cell 4).trans rfl
    have m5 := (HJ7.out.mb.cell 5).trans rfl
    have b1 := (HJ7.out.br.cell 1).trans rfl
    have l0 := (HJ7.out.leg.cell 0).trans rfl
    have l1 := (HJ7.out.leg.cell 1).trans rfl
    have l2 := (HJ7.out.leg.cell 2).trans rfl
    have l3 := (HJ7.out.leg.cell 3).trans rfl
    have l4 := (HJ7.out.leg.cell 4).trans rfl
    have l5 := (HJ7.out.leg.cell 5).trans rfl
    have a3 := (HJ7.out.arr.cell 3).trans rfl
    have a7 := (HJ7.out.arr.cell 7).trans rfl
    go_wp2_with fail
    go_at_call 201; refine (HPO.out g _ (HQ.out.below HJ7.out.below)).mono ?_; rintro e w' ⟨rfl, xp, rfl⟩
    go_wp2_with fail
    refine wp_region_grows (by kernel_rfl) (by kernel_rfl) ?_
    repeat (go_big_quiet_step ((go_at_call 223; exact Calls.quiet_ext (HLN.out _ _ _ rfl _))))
    refine wpQuiet_nil ?_; rintro _ ⟨xq, rfl⟩
    go_wp2_with fail
    refine bodyPost_ret (v := .tuple #[.int .i64 (lengthI r b.size (poorI q g) true), .int .i64 (lengthI r b.size (poorI q g) tn1), .int .i64 0]) (by simp [results, Tryz.results169, go_sem]) rfl ?_
    unfold endsI
    simp only
    rw [HB0.out, HB1.out]
    exact Ret.of (HJ7.out.below.trans (Below.mono gro HJ7.out.below.size))
   ·simp only [Bool.false_or, Bool.true_or] at HB0 HB1
    go_wp2_with fail
    refine wp_loop_rounds 3 ?_
    rw [rounds_succ]
    go_wp2_with fail
    obtain ⟨gN0, hgN⟩ : ∃ gg, gg = W1.heap.size := ⟨_, rfl⟩
    rw [← hgN]
    refine world_mask (fun W => EndsJ w r q b g gl gE false false W ∧ Blk W gN0 #[.int .i64 (j : Int), .int .i64 ((j : Int) + 1 + 1)] 3) _ ⟨HJ.out.grows gro, Blk.new' hgN _ _⟩ ?_
    clear hgN
    rintro W2 ⟨J2, N2⟩
    have HJ2 := hd0 J2
    have HN2 := hd0 N2
    have n0 : W2.cell? ⟨gN0, 0, none⟩ = some (.int .i64 (j : Int)) := N2.cell 0
    have n1 : W2.cell? ⟨gN0, 1, none⟩ = some (.int .i64 ((j : Int) + 1 + 1)) := N2.cell 1
    have a3 : W2.cell? ⟨gE, 3, none⟩ = some (.bool false) := J2.arr.cell 3
    have af : W2.frozen? ⟨gE, 3, none⟩ = false := J2.arr.frozen 3
    clear J2 N2
    refine wp_loop_rounds 3 ?_
    rw [rounds_succ]
    obtain ⟨z0, z1, z2, z3, z4, z5⟩ := (HP.out.below' HJ2.out.below)
    have e0 := (HJ2.out.arr.cell 0).trans rfl
    have e1 := (HJ2.out.arr.cell 1).trans rfl
    have e2 := (HJ2.out.arr.cell 2).trans rfl
    go_upto_region 18 with fail
    refine wp_region_grows (by kernel_rfl) (by kernel_rfl) ?_
    repeat (go_big_quiet_step ((go_at_call 222; exact Calls.quiet_ext (HCp0.out _))))
    refine wpQuiet_nil ?_; rintro _ ⟨xq, rfl⟩
    go_upto_region 20 with fail
    clear z0 z1 z2 z3 z4 z5 e0 e1 e2
    refine world_mask (fun W => EndsJ w r q b g gl gE true false W ∧ Blk W gN0 #[.int .i64 (j : Int), .int .i64 ((j : Int) + 1 + 1)] 3) _ ⟨(HJ2.out.set0 true).grows (below_ext _ _), ((HN2.out).other (blkNe HN2.out HJ2.out.arr (by decide)) _).ext _⟩ ?_
    clear n0 n1 a3 af
    rintro W3 ⟨J3, N3⟩
    have HJ3 := hd0 J3
    have HN3 := hd0 N3
    have n0 : W3.cell? ⟨gN0, 0, none⟩ = some (.int .i64 (j : Int)) := N3.cell 0
    have n1 : W3.cell? ⟨gN0, 1, none⟩ = some (.int .i64 ((j : Int) + 1 + 1)) := N3.cell 1
    have a3 : W3.cell? ⟨gE, 3, none⟩ = some (.bool true) := J3.arr.cell 3
    have af : W3.frozen? ⟨gE, 3, none⟩ = false := J3.arr.frozen 3
    clear J3 N3
    go_wp2_with fail
    rw [rounds_succ]
    obtain ⟨z0, z1, z2, z3, z4, z5⟩ := (HN.out.below' HJ3.out.below)
    have e0 := (HJ3.out.arr.cell 0).trans rfl
    have e1 := (HJ3.out.arr.cell 1).trans rfl
    have e2 := (HJ3.out.arr.cell 2).trans rfl
    go_upto_region 18 with fail
    refine wp_region_grows (by kernel_rfl) (by kernel_rfl) ?_
    repeat (go_big_quiet_step ((go_at_call 222; exact Calls.quiet_ext (HCn0.out _))))
    refine wpQuiet_nil ?_; rintro _ ⟨xq, rfl⟩
    go_upto_region 20 with fail
    clear z0 z1 z2 z3 z4 z5 e0 e1 e2
    refine world_mask (fun W => EndsJ w r q b g gl gE true false W ∧ Blk W gN0 #[.int .i64 (j : Int), .int .i64 ((j : Int) + 1 + 1)] 3) _ ⟨(HJ3.out.set0 true).grows (below_ext _ _), ((HN3.out).other (blkNe HN3.out HJ3.out.arr (by decide)) _).ext _⟩ ?_
    clear n0 n1 a3 af
    rintro W4 ⟨J4, N4⟩
    have HJ4 := hd0 J4
    have HN4 := hd0 N4
    have n0 : W4.cell? ⟨gN0, 0, none⟩ = some (.int .i64 (j : Int)) := N4.cell 0
    have n1 : W4.cell? ⟨gN0, 1, none⟩ = some (.int .i64 ((j : Int) + 1 + 1)) := N4.cell 1
    have a3 : W4.cell? ⟨gE, 3, none⟩ = some (.bool true) := J4.arr.cell 3
    have af : W4.frozen? ⟨gE, 3, none⟩ = false := J4.arr.frozen 3
    clear J4 N4
    go_wp2_with fail
    rw [rounds_succ]
    clear n0 n1 a3 af
    go_wp2_with fail
    rw [rounds_succ]
    go_wp2_with fail
    obtain ⟨gN1, hgN⟩ : ∃ gg, gg = W4.heap.size := ⟨_, rfl⟩
    rw [← hgN]
    refine world_mask (fun W => EndsJ w r q b g gl gE true false W ∧ Blk W gN1 #[.int .i64 (j : Int), .int .i64 ((j : Int) + 1 + 1)] 3) _ ⟨HJ4.out.grows gro, Blk.new' hgN _ _⟩ ?_
    clear hgN
    rintro W5 ⟨J5, N5⟩
    have HJ5 := hd0 J5
    have HN5 := hd0 N5
    have n0 : W5.cell? ⟨gN1, 0, none⟩ = some (.int .i64 (j : Int)) := N5.cell 0
    have n1 : W5.cell? ⟨gN1, 1, none⟩ = some (.int .i64 ((j : Int) + 1 + 1)) := N5.cell 1
    have a3 : W5.cell? ⟨gE, 7, none⟩ = some (.bool false) := J5.arr.cell 7
    have af : W5.frozen? ⟨gE, 7, none⟩ = false := J5.arr.frozen 7
    clear J5 N5
    refine wp_loop_rounds 3 ?_
    rw [rounds_succ]
    obtain ⟨z0, z1, z2, z3, z4, z5⟩ := (HP.out.below' HJ5.out.below)
    have e0 := (HJ5.out.arr.cell 4).trans rfl
    have e1 := (HJ5.out.arr.cell 5).trans rfl
    have e2 := (HJ5.out.arr.cell 6).trans rfl
    go_upto_region 18 with fail
    refine wp_region_grows (by kernel_rfl) (by kernel_rfl) ?_
    repeat (go_big_quiet_step ((go_at_call 222; exact Calls.quiet_ext (HCp1.out _))))
    refine wpQuiet_nil ?_; rintro _ ⟨xq, rfl⟩
    go_upto_region 20 with fail
    clear z0 z1 z2 z3 z4 z5 e0 e1 e2
    refine world_mask (fun W => EndsJ w r q b g gl gE true true W ∧ Blk W gN1 #[.int .i64 (j : Int), .int .i64 ((j : Int) + 1 + 1)] 3) _ ⟨(HJ5.out.set1 true).grows (below_ext _ _), ((HN5.out).other (blkNe HN5.out HJ5.out.arr (by decide)) _).ext _⟩ ?_
    clear n0 n1 a3 af
    rintro W6 ⟨J6, N6⟩
    have HJ6 := hd0 J6
    have HN6 := hd0 N6
    have n0 : W6.cell? ⟨gN1, 0, none⟩ = some (.int .i64 (j : Int)) := N6.cell 0
    have n1 : W6.cell? ⟨gN1, 1, none⟩ = some (.int .i64 ((j : Int) + 1 + 1)) := N6.cell 1
    have a3 : W6.cell? ⟨gE, 7, none⟩ = some (.bool true) := J6.arr.cell 7
    have af : W6.frozen? ⟨gE, 7, none⟩ = false := J6.arr.frozen 7
    clear J6 N6
    go_wp2_with fail
    rw [rounds_succ]
    obtain ⟨z0, z1, z2, z3, z4, z5⟩ := (HN.out.below' HJ6.out.below)
    have e0 := (HJ6.out.arr.cell 4).trans rfl
    have e1 := (HJ6.out.arr.cell 5).trans rfl
    have e2 := (HJ6.out.arr.cell 6).trans rfl
    go_upto_region 18 with fail
    refine wp_region_grows (by kernel_rfl) (by kernel_rfl) ?_
    repeat (go_big_quiet_step ((go_at_call 222; exact Calls.quiet_ext (HCn1.out _))))
    refine wpQuiet_nil ?_; rintro _ ⟨xq, rfl⟩
    go_upto_region 20 with fail
    clear z0 z1 z2 z3 z4 z5 e0 e1 e2
    refine world_mask (fun W => EndsJ w r q b g gl gE true true W ∧ Blk W gN1 #[.int .i64 (j : Int), .int .i64 ((j : Int) + 1 + 1)] 3) _ ⟨(HJ6.out.set1 true).grows (below_ext _ _), ((HN6.out).other (blkNe HN6.out HJ6.out.arr (by decide)) _).ext _⟩ ?_
    clear n0 n1 a3 af
    rintro W7 ⟨J7, N7⟩
    have HJ7 := hd0 J7
    have HN7 := hd0 N7
    have n0 : W7.cell? ⟨gN1, 0, none⟩ = some (.int .i64 (j : Int)) := N7.cell 0
    have n1 : W7.cell? ⟨gN1, 1, none⟩ = some (.int .i64 ((j : Int) + 1 + 1)) := N7.cell 1
    have a3 : W7.cell? ⟨gE, 7, none⟩ = some (.bool true) := J7.arr.cell 7
    have af : W7.frozen? ⟨gE, 7, none⟩ = false := J7.arr.frozen 7
    clear J7 N7
    go_wp2_with fail
    rw [rounds_succ]
    clear n0 n1 a3 af
    go_wp2_with fail
    rw [rounds_succ]
    have u0 := (HJ7.out.ru.cell 0).trans rfl
    have u1 := (HJ7.out.ru.cell 1).trans rfl
    have u2 := (HJ7.out.ru.cell 2).trans rfl
    have u3 := (HJ7.out.ru.cell 3).trans rfl
    have u4 := (HJ7.out.ru.cell 4).trans rfl
    have u5 := (HJ7.out.ru.cell 5).trans rfl
    have u6 := (HJ7.out.ru.cell 6).trans rfl
    have u7 := (HJ7.out.ru.cell 7).trans rfl
    have u8 := (HJ7.out.ru.cell 8).trans rfl
    have m0 := (HJ7.out.mb.cell 0).trans rfl
    have m1 := (HJ7.out.mb.cell 1).trans rfl
    have m2 := (HJ7.out.mb.cell 2).trans rfl
    have m3 := (HJ7.out.mb.cell 3).trans rfl
    have m4 := (HJ7.out.mb.cell 4).trans rfl
    have m5 := (HJ7.out.mb.cell 5).trans rfl
    have b1 := (HJ7.out.br.cell 1).trans rfl
    have l0 := (HJ7.out.leg.cell 0).trans rfl
    have l1 := (HJ7.out.leg.cell 1).trans rfl
    have l2 := (HJ7.out.leg.cell 2).trans rfl
    have l3 := (HJ7.out.leg.cell 3).trans rfl
    have l4 := (HJ7.out.leg.cell 4).trans rfl
    have l5 := (HJ7.out.leg.cell 5).trans rfl
    have a3 := (HJ7.out.arr.cell 3).trans rfl
    have a7 := (HJ7.out.arr.cell 7).trans rfl
    go_wp2_with fail
    go_at_call 201; refine (HPO.out g _ (HQ.out.below HJ7.out.below)).mono ?_; rintro e w' ⟨rfl, xp, rfl⟩
    go_wp2_with fail
    refine wp_region_grows (by kernel_rfl) (by kernel_rfl) ?_
    repeat (go_big_quiet_step ((go_at_call 223; exact Calls.quiet_ext (HLN.out _ _ _ rfl _))))
    refine wpQuiet_nil ?_; rintro _ ⟨xq, rfl⟩
    go_wp2_with fail
    refine bodyPost_ret (v := .tuple #[.int .i64 (lengthI r b.size (poorI q g) true), .int .i64 (lengthI r b.size (poorI q g) true), .int .i64 0]) (by simp [results, Tryz.results169, go_sem]) rfl ?_
    unfold endsI
    simp only
    rw [HB0.out, HB1.out]
    exact Ret.of (HJ7.out.below.trans (Below.mono gro HJ7.out.below.size))
  ·have ht0 : touchB L (((j + 1 : Nat) : Int) + 1) (loP g) = false := touch_out _ _ (by omega)
   have ht1 : touchB L (((j + 1 : Nat) : Int) + 1) (hiP g) = false := touch_out _ _ (by omega)
   rw [ht0, Bool.or_false] at HB0
   rw [ht1, Bool.or_false] at HB1
   have q5 : ¬ (j : Int) + 1 + 1 < (L.length : Int) := by omega
   clear ht0 ht1 hnx hvp hgv
   go_wp2_with fail
   refine wp_loop_rounds 3 ?_
   rw [rounds_succ]
   go_wp2_with fail
   obtain ⟨gN0, hgN⟩ : ∃ gg, gg = W1.heap.size := ⟨_, rfl⟩
   rw [← hgN]
   refine world_mask (fun W => EndsJ w r q b g gl gE false false W ∧ Blk W gN0 #[.int .i64 (j : Int), .int .i64 ((j : Int) + 1 + 1)] 3) _ ⟨HJ.out.grows gro, Blk.new' hgN _ _⟩ ?_
   clear hgN
   rintro W2 ⟨J2, N2⟩
   have HJ2 := hd0 J2
   have HN2 := hd0 N2
   have n0 : W2.cell? ⟨gN0, 0, none⟩ = some (.int .i64 (j : Int)) := N2.cell 0
   have n1 : W2.cell? ⟨gN0, 1, none⟩ = some (.int .i64 ((j : Int) + 1 + 1)) := N2.cell 1
   have a3 : W2.cell? ⟨gE, 3, none⟩ = some (.bool false) := J2.arr.cell 3
   have af : W2.frozen? ⟨gE, 3, none⟩ = false := J2.arr.frozen 3
   clear J2 N2
   refine wp_loop_rounds 3 ?_
   rw [rounds_succ]
   obtain ⟨z0, z1, z2, z3, z4, z5⟩ := (HP.out.below' HJ2.out.below)
   have e0 := (HJ2.out.arr.cell 0).trans rfl
   have e1 := (HJ2.out.arr.cell 1).trans rfl
   have e2 := (HJ2.out.arr.cell 2).trans rfl
   go_upto_region 18 with fail
   refine wp_region_grows (by kernel_rfl) (by kernel_rfl) ?_
   repeat (go_big_quiet_step ((go_at_call 222; exact Calls.quiet_ext (HCp0.out _))))
   refine wpQuiet_nil ?_; rintro _ ⟨xq, rfl⟩
   go_upto_region 20 with fail
   clear z0 z1 z2 z3 z4 z5 e0 e1 e2
   refine world_mask (fun W => EndsJ w r q b g gl gE tp0 false W ∧ Blk W gN0 #[.int .i64 (j : Int), .int .i64 ((j : Int) + 1 + 1)] 3) _ ⟨(HJ2.out.set0 tp0).grows (below_ext _ _), ((HN2.out).other (blkNe HN2.out HJ2.out.arr (by decide)) _).ext _⟩ ?_
   clear n0 n1 a3 af
   rintro W3 ⟨J3, N3⟩
   have HJ3 := hd0 J3
   have HN3 := hd0 N3
   have n0 : W3.cell? ⟨gN0, 0, none⟩ = some (.int .i64 (j : Int)) := N3.cell 0
   have n1 : W3.cell? ⟨gN0, 1, none⟩ = some (.int .i64 ((j : Int) + 1 + 1)) := N3.cell 1
   have a3 : W3.cell? ⟨gE, 3, none⟩ = some (.bool tp0) := J3.arr.cell 3
   have af : W3.frozen? ⟨gE, 3, none⟩ = false := J3.arr.frozen 3
   clear J3 N3
   go_wp2_with fail
   rw [rounds_succ]
   go_wp2_with fail
   rw [rounds_succ]
   clear n0 n1 a3 af
   go_wp2_with fail
   rw [rounds_succ]
   go_wp2_with fail
   obtain ⟨gN1, hgN⟩ : ∃ gg, gg = W3.heap.size := ⟨_, rfl⟩
   rw [← hgN]
   refine world_mask (fun W => EndsJ w r q b g gl gE tp0 false W ∧ Blk W gN1 #[.int .i64 (j : Int), .int .i64 ((j : Int) + 1 + 1)] 3) _ ⟨HJ3.out.grows gro, Blk.new' hgN _ _⟩ ?_
   clear hgN
   rintro W4 ⟨J4, N4⟩
   have HJ4 := hd0 J4
   have HN4 := hd0 N4
   have n0 : W4.cell? ⟨gN1, 0, none⟩ = some (.int .i64 (j : Int)) := N4.cell 0
   have n1 : W4.cell? ⟨gN1, 1, none⟩ = some (.int .i64 ((j : Int) + 1 + 1)) := N4.cell 1
   have a3 : W4.cell? ⟨gE, 7, none⟩ = some (.bool false) := J4.arr.cell 7
   have af : W4.frozen? ⟨gE, 7, none⟩ = false := J4.arr.frozen 7
   clear J4 N4
   refine wp_loop_rounds 3 ?_
   rw [rounds_succ]
   obtain ⟨z0, z1, z2, z3, z4, z5⟩ := (HP.out.below' HJ4.out.below)
   have e0 := (HJ4.out.arr.cell 4).trans rfl
   have e1 := (HJ4.out.arr.cell 5).trans rfl
   have e2 := (HJ4.out.arr.cell 6).trans rfl
   go_upto_region 18 with fail
   refine wp_region_grows (by kernel_rfl) (by kernel_rfl) ?_
   repeat (go_big_quiet_step ((go_at_call 222; exact Calls.quiet_ext (HCp1.out _))))
   refine wpQuiet_nil ?_; rintro _ ⟨xq, rfl⟩
   go_upto_region 20 with fail
   clear z0 z1 z2 z3 z4 z5 e0 e1 e2
   refine world_mask (fun W => EndsJ w r q b g gl gE tp0 tp1 W ∧ Blk W gN1 #[.int .i64 (j : Int), .int .i64 ((j : Int) + 1 + 1)] 3) _ ⟨(HJ4.out.set1 tp1).grows (below_ext _ _), ((HN4.out).other (blkNe HN4.out HJ4.out.arr (by decide)) _).ext _⟩ ?_
   clear n0 n1 a3 af
   rintro W5 ⟨J5, N5⟩
   have HJ5 := hd0 J5
   have HN5 := hd0 N5
   have n0 : W5.cell? ⟨gN1, 0, none⟩ = some (.int .i64 (j : Int)) := N5.cell 0
   have n1 : W5.cell? ⟨gN1, 1, none⟩ = some (.int .i64 ((j : Int) + 1 + 1)) := N5.cell 1
   have a3 : W5.cell? ⟨gE, 7, none⟩ = some (.bool tp1) := J5.arr.cell 7
   have af : W5.frozen? ⟨gE, 7, none⟩ = false := J5.arr.frozen 7
   clear J5 N5
   go_wp2_with fail
   rw [rounds_succ]
   go_wp2_with fail
   rw [rounds_succ]
   clear n0 n1 a3 af
   go_wp2_with fail
   rw [rounds_succ]
   have u0 := (HJ5.out.ru.cell 0).trans rfl
   have u1 := (HJ5.out.ru.cell 1).trans rfl
   have u2 := (HJ5.out.ru.cell 2).trans rfl
   have u3 := (HJ5.out.ru.cell 3).trans rfl
   have u4 := (HJ5.out.ru.cell 4).trans rfl
   have u5 := (HJ5.out.ru.cell 5).trans rfl
   have u6 := (HJ5.out.ru.cell 6).trans rfl
   have u7 := (HJ5.out.ru.cell 7).trans rfl
   have u8 := (HJ5.out.ru.cell 8).trans rfl
   have m0 := (HJ5.out.mb.cell 0).trans rfl
   have m1 := (HJ5.out.mb.cell 1).trans rfl
   have m2 := (HJ5.out.mb.cell 2).trans rfl
   have m3 := (HJ5.out.mb.cell 3).trans rfl
   have m4 := (HJ5.out.mb.cell 4).trans rfl
   have m5 := (HJ5.out.mb.cell 5).trans rfl
   have b1 := (HJ5.out.br.cell 1).trans rfl
   have l0 := (HJ5.out.leg.cell 0).trans rfl
   have l1 := (HJ5.out.leg.cell 1).trans rfl
   have l2 := (HJ5.out.leg.cell 2).trans rfl
   have l3 := (HJ5.out.leg.cell 3).trans rfl
   have l4 := (HJ5.out.leg.cell 4).trans rfl
   have l5 := (HJ5.out.leg.cell 5).trans rfl
   have a3 := (HJ5.out.arr.cell 3).trans rfl
   have a7 := (HJ5.out.arr.cell 7).trans rfl
   go_wp2_with fail
   go_at_call 201; refine (HPO.out g _ (HQ.out.below HJ5.out.below)).mono ?_; rintro e w' ⟨rfl, xp, rfl⟩
   go_wp2_with fail
   refine wp_region_grows (by kernel_rfl) (by kernel_rfl) ?_
   repeat (go_big_quiet_step ((go_at_call 223; exact Calls.quiet_ext (HLN.out _ _ _ rfl _))))
   refine wpQuiet_nil ?_; rintro _ ⟨xq, rfl⟩
   go_wp2_with fail
   refine bodyPost_ret (v := .tuple #[.int .i64 (lengthI r b.size (poorI q g) tp0), .int .i64 (lengthI r b.size (poorI q g) tp1), .int .i64 0]) (by simp [results, Tryz.results169, go_sem]) rfl ?_
   unfold endsI
   simp only
   rw [HB0.out, HB1.out]
   exact Ret.of (HJ5.out.below.trans (Below.mono gro HJ5.out.below.size))
end Go.Proofs.YtkjljneehgmmaaaGreat

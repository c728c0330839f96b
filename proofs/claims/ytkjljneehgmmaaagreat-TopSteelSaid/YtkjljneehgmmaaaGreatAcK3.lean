/- TtP, TtQ, TtR, TtS in one text. -/
import Derived.Test.YtkjljneehgmmaaaGreatAcK2
import Derived.Test.YtkjljneehgmmaaaGreatAbK4
import Derived.Test.YtkjljneehgmmaaaGreatAaK6
import Derived.Test.YtkjljneehgmmaaaGreatLaidK3
import Derived.Maps.OwnSet
import Derived.Maps.OwnOps
import Derived.Test.YtkjljneehgmmaaaGreatCovK1
namespace Go.Proofs.YtkjljneehgmmaaaGreat
set_option linter.unusedVariables false
set_option linter.unusedSimpArgs false
open Go Go.RowKit
set_option maxRecDepth 20000
set_option maxHeartbeats 8000000
set_option maxRecDepth 100000

theorem setCell_same {W : World} {g i : Nat} {cs : Array Value} {t : TypeId} {v : Value} (h : Blk W g cs t) (hv : cs[i]? = some v) : W.setCell ⟨g, i, none⟩ v = W := by
 have hi := (Array.getElem?_eq_some_iff.1 hv).1
 have e : cs.setIfInBounds i v = cs := by
  refine Array.ext (by simp) (fun j h1 h2 => ?_)
  by_cases hj : j = i
  ·subst hj
   rw [Array.getElem_setIfInBounds]
   ·simp; exact (Array.getElem?_eq_some_iff.1 hv).2.symm
   ·exact h2
  ·rw [Array.getElem_setIfInBounds]
   ·simp [Ne.symm hj]
   ·exact h2
 rw [setCell_eq_setRow W g i cs t (0, 0) v h, e]
 exact setRow_self W g cs t (0, 0) h
theorem add0_c (g : Nat) (u : Value) (a : Option Addr) (c : Nat) (k : Int) (w : World) (hg : Blk w g #[u, .int .i64 0] 172) :
  Calls Tryz.prog 87 #[.pointer (some ⟨g, 0, none⟩), .slice a 0 c, .int .i64 0, .int .i64 k] w (fun e W => e = .returned (.tuple #[]) ∧ W = w) := by
 have c1 := hg.cell 1
 have f1 := hg.frozen 1
 have HS := hd0 (setCell_same (i := 1) (v := .int .i64 0) hg rfl)
 clear hg
 go_enter Tryz.func87, Tryz.ntmps87
 go_wp2_with fail
 refine wp_loop_rounds 1 ?_
 rw [rounds_succ, HS.out]
 go_wp2
 go_end0
 exact ⟨rfl, rfl⟩
theorem bend1_c (g : Nat) (w : World) (hg : w.cell? ⟨g, 0, none⟩ = some (.int .i64 12)) : Calls Tryz.prog 198 #[.pointer (some ⟨g, 0, none⟩)] w (Ret w (.int .i64 30)) := by
 go_enter Tryz.func198, Tryz.ntmps198
 go_wp2
 go_ret
 exact Ret.of gro
theorem enters_bend1 : Enters 198 := enters_of Tryz.func198 (by decide) (by simp [Tryz.f198])
theorem Bend12_c (w : World) : Calls Tryz.prog 141 #[.int .i64 12] w (Ret w (.tuple #[.int .i64 30, .int .i64 0])) := by
 have HN := hd0 (fun caps w hf => sized_ok 12 30 (by decide) _ enters_bend1 caps w hf)
 have HR := hd0 (fun g w hg => bend1_c g w hg)
 go_enter Tryz.func141, Tryz.ntmps141
 go_wp2_with fail
 go_at_call 197; refine (HN.out _ _ (fun x => HR.out _ _ (by simp [go_sem]))).mono ?_; rintro e w' ⟨rfl, x1, rfl⟩
 go_wp2
 go_ret2
 exact Ret.of gro
theorem bendCheck_c (b : Br) (h : shapeB b = true) (hsz : b.size = 12) (hlen : (legsN b).length = 1) (w : World) (hb : BrOk w b) : Calls Tryz.prog 86 #[(.agg #[.string b.mark, .int .i64 b.size, .int .i64 b.count, .int .i64 b.code, b.dv])] w (Ret w (.tuple #[.slice none 0 0, .int .i64 0])) := by
 have hlg := fun w hb => shapeLegs_c b h w hb
 rw [hlen] at hlg
 have HLG := hd0 hlg
 have HB := hd0 hb
 have HBN := hd0 (fun w => Bend12_c w)
 obtain ⟨ad, cd, ed, -⟩ := hb.dims
 generalize (legsN b).map (Value.int .i64) = xs at *
 obtain ⟨mark, size, count, code, dims, dv⟩ := b
 simp only at hsz ed HLG
 subst hsz
 subst ed
 clear h hb hlen hlg
 go_enter Tryz.func86, Tryz.ntmps86
 go_upto_region 1 with fail
 refine world_mask (fun W => Below w.heap.size w W ∧ Blk W w.heap.size #[.string mark, .int .i64 12, .int .i64 count, .int .i64 code, .slice ad dims.length cd] 81) _ ⟨gro, Blk.new _ _ _⟩ ?_
 rintro W2 ⟨hb2, K2⟩
 have HB2 := hd0 hb2
 have HK2 := hd0 K2
 have e1 := fun y => (K2.ext y).cell 1
 clear hb2 K2
 go_wp2_with (first | (refine wpList_load_row rfl _ _ rfl _ rfl _ _ _ _ HK2.out rfl rfl rfl ?_) | (go_at_call 140; refine (HLG.out _ (HB.out.below HB2.out)).mono ?_; rintro e w' ⟨vl, rfl, hown, y1, rfl⟩; obtain ⟨al, cl, rfl, -, -, -⟩ := own_shape hown; have e1' := e1 y1; clear hown) | (go_at_call 141; refine (HBN.out _).mono ?_; rintro e w' ⟨rfl, x3, rfl⟩))
 go_ret2
 exact Ret.of (grob HB2.out)
theorem lapCheck0_c (x : Dt) (hv : DtV x) (hlp : x.lp = []) (w : World) (h : DtAt w x) : Calls Tryz.prog 90 #[(.agg #[.string x.q.name, x.q.u, x.q.t, .int .i64 x.q.cover, .int .i64 x.q.agg, .int .i64 x.q.poker, x.lv, x.rv, x.pv, x.dv, .int .i64 x.ru.num, .int .i64 x.ru.den, .int .i64 x.ru.pn, .int .i64 x.ru.pd, .int .i64 x.ru.bn, .int .i64 x.ru.bd, .int .i64 x.ru.ln, .int .i64 x.ru.ld, .int .i64 x.ru.least])] w (Ret w (.tuple #[.slice none 0 0, .int .i64 0])) := by
 have HX := hd0 h
 have HLK := hd0 (look_c x hv)
 obtain ⟨pa, pc, epv, -⟩ := h.lp.shape
 rw [hlp] at epv
 have HPV := hd0 epv
 clear h hv hlp epv
 go_enter Tryz.func90, Tryz.ntmps90
 go_upto_region 1 with fail
 refine world_mask (fun W => Below w.heap.size w W ∧ Blk W w.heap.size (dtC x) 34) _ ⟨gro, Blk.new _ _ _⟩ ?_
 rintro W1 ⟨hb1, K1⟩
 have HB1 := hd0 hb1
 have HK1 := hd0 K1
 have e8 : ∀ y, (ext W1 y).cell? ⟨w.heap.size, 8, none⟩ = some (.slice pa 0 pc) := fun y => ((K1.ext y).cell 8).trans (congrArg some HPV.out)
 clear hb1 K1
 go_upto_region 5 with (first | (refine wpList_load_row rfl _ _ rfl _ rfl _ (dtC x) _ _ HK1.out rfl rfl rfl ?_) | (go_at_call 63; refine (HLK.out _ (HX.out.below HB1.out)).mono ?_; rintro e w' ⟨vm, rfl, hown, x5, rfl⟩; obtain ⟨am, cm, rfl, -, -, -⟩ := own_shape hown; have e8' := e8 x5; clear hown))
 have HB2 := hd0 (show Below w.heap.size w (ext W1 x5) from grob HB1.out)
 clear e8
 go_wp2_with fail
 refine wp_loop_rounds 1 ?_
 rw [rounds_succ]
 go_wp2
 go_ret2
 exact Ret.of HB2.out

def BalM (W : World) (m n : Nat) (k : ByteArray) (c : Int) : Prop := ∃ D : DataW Unit, W.ownsMap Tryz.prog 9 (plainElem Tryz.prog 3) m n D ∧ Maps.IsMap D ∧ D.atKey (.string k.data.toList) (.lit (.int .i64 0)) = .lit (.int .i64 c)
theorem BalM.lt {W : World} {m n : Nat} {k : ByteArray} {c : Int} (h : BalM W m n k c) : m < W.heap.size := by
 obtain ⟨D, h1, -⟩ := h
 exact h1.lt
theorem BalM.below {w w' : World} {m n : Nat} {k : ByteArray} {c : Int} (h : BalM w m n k c) (hb : Below w.heap.size w w') : BalM w' m n k c := by
 obtain ⟨D, h1, h2, h3⟩ := h
 exact ⟨D, h1.kept (row := none) ⟨hb.os, hb.tape, hb.output, hb.size, fun k hk _ => hb.block k hk⟩ (by simp), h2, h3⟩
theorem BalM.made (w : World) (k : ByteArray) : BalM (w.alloc (.map #[] 0)) w.heap.size 0 k 0 := ⟨.map [], World.ownsMap_made _ _ _ _, ⟨_, rfl⟩, rfl⟩
theorem BalM.look {W : World} {m n : Nat} {k : ByteArray} {c : Int} (h : BalM W m n k c) (hk : k.size ≤ 9223372036854775807) : (Instr.lookup 215 (.map (some m)) (.string k) false).run Tryz.prog W = .ok (.int .i64 c) W := by
 obtain ⟨D, h1, h2, h3⟩ := h
 obtain ⟨v, ps, hrun, hv⟩ := h1.lookup marks_law Tryz.underlying215 (zero_int W) (plainElem_int Tryz.underlying3 rfl) (WideMaps.keyOf_string_mk Tryz.underlying9 (by unfold maxLen; exact hk))
 rw [h3] at hv
 rw [hrun]
 obtain ⟨c, rfl, hc, _⟩ := plainElem_int_inv Tryz.underlying3 hv
 simp only [Prod.mk.injEq, DataW.lit.injEq, Lit.int.injEq, true_and] at hc
 rw [← hc.1]
theorem cell_upB {w W : World} (hb : Below w.heap.size w W) {a : Addr} {v : Value} (h : w.cell? a = some v) : W.cell? a = some v := by
 obtain ⟨x, rfl⟩ := ext_of hb
 exact cell_ext_some h x
theorem below_of_grown {w W W' : World} {m : Nat} (hb : Below w.heap.size w W) (hm : w.heap.size ≤ m) (h : W.grownBy W' (some m)) : Below w.heap.size w W' :=
 ⟨h.os.trans hb.os, h.tape.trans hb.tape, h.output.trans hb.output, Nat.le_trans hb.size h.size, fun k hk => (h.block k (Nat.lt_of_lt_of_le hk hb.size) (fun e => by cases e; omega)).trans (hb.block k hk)⟩
structure BalS (w W : World) (m n : Nat) (k : ByteArray) (c : Int) : Prop where
 bel : Below w.heap.size w W
 map : BalM W m n k c
theorem BalS.up {w W W' : World} {m n : Nat} {k : ByteArray} {c : Int} (h : BalS w W m n k c) (hb : Below W.heap.size W W') : BalS w W' m n k c :=
 ⟨h.bel.trans (hb.mono h.bel.size), h.map.below hb⟩
theorem cell_of_grown {W W' : World} {m g i : Nat} (h : W.grownBy W' (some m)) (hne : g ≠ m) (hg : g < W.heap.size) : W'.cell? ⟨g, i, none⟩ = W.cell? ⟨g, i, none⟩ :=
 World.cell?_of_block (a := ⟨g, i, none⟩) (h.block g hg (by simpa using hne))
theorem cell_fresh {W W' : World} {m : Nat} {cs : Array Value} {t : TypeId} (hm : m < W.heap.size) (h : (W.alloc (.cells cs t)).grownBy W' (some m)) (i : Nat) : W'.cell? ⟨W.heap.size, i, none⟩ = cs[i]? := by
 have k := Blk.new W cs t
 rw [cell_of_grown h (Nat.ne_of_gt hm) (by show W.heap.size < (W.heap.push _).size; simp)]
 exact k.cell i
section
variable {W w : World} {ops : Array Oper} {rest : List Oper} {o : Oper} {a : Act} {Q : Exit → Act → World → Prop} {b n : Nat} {k : ByteArray} {c : Int}
theorem bal_look (hg : o.guard = none) (m x : Operand) (hop : o.op = Op.lookup 215 m x false) (hm : a.eval m = .map (some b)) (h : BalS w W b n k c) (hk : k.size ≤ 9223372036854775807) (hx : a.eval x = .string k)
  (hK : wpList Tryz.prog ops Q rest (a.put o.dst (.int .i64 c)) W) : wpList Tryz.prog ops Q (o :: rest) a W := by
 refine wpList_plain hg fun K' hK' => ?_
 have hrun := h.map.look hk
 unfold Oper.wp
 simp [execOp, hop, hm, hx, hrun, Result.andThen]
 exact hK' _ _ hK
theorem bal_put (hg : o.guard = none) (m x v : Operand) (hop : o.op = Op.mapUpdate 215 m x v) (hm : a.eval m = .map (some b)) (h : BalS w W b n k c) (hb : w.heap.size ≤ b) (hn : n < maxLen) (hk : k.size ≤ 9223372036854775807) (hx : a.eval x = .string k)
  (c' : Int) (hv : a.eval v = .int .i64 c') (hw : (Lit.int .i64 c').wf = true)
  (hK : ∀ W', BalS w W' b (n + 1) k c' → wpList Tryz.prog ops Q rest (a.put o.dst undef) W') : wpList Tryz.prog ops Q (o :: rest) a W := by
 obtain ⟨D, m1, m2, m3⟩ := h.map
 refine wpList_mapUpdate_own _ hg m x v 215 hop 9 3 marks_law Tryz.underlying215 _ b n D hm m1 hn _ _ (.string k.data.toList) hx hv (WideMaps.keyOf_string_mk Tryz.underlying9 (by unfold maxLen; exact hk)) (.lit (.int .i64 c')) [] (plainElem_int Tryz.underlying3 hw) ?_
 intro W3 hown3 hgrow3
 exact hK W3 ⟨below_of_grown h.bel hb hgrow3, _, hown3, Maps.IsMap.put m2 _ _, Maps.atKey_put_same m2 (by trivial) _ _⟩
theorem bal_put2 (hg : o.guard = none) (m x v : Operand) (hop : o.op = Op.mapUpdate 215 m x v) (hm : a.eval m = .map (some b)) (h : BalS w W b n k c) (hb : w.heap.size ≤ b) (hn : n < maxLen) (hk : k.size ≤ 9223372036854775807) (hx : a.eval x = .string k)
  (c' : Int) (hv : a.eval v = .int .i64 c') (hw : (Lit.int .i64 c').wf = true)
  (hK : ∀ W', BalS w W' b (n + 1) k c' → W.grownBy W' (some b) → wpList Tryz.prog ops Q rest (a.put o.dst undef) W') : wpList Tryz.prog ops Q (o :: rest) a W := by
 obtain ⟨D, m1, m2, m3⟩ := h.map
 refine wpList_mapUpdate_own _ hg m x v 215 hop 9 3 marks_law Tryz.underlying215 _ b n D hm m1 hn _ _ (.string k.data.toList) hx hv (WideMaps.keyOf_string_mk Tryz.underlying9 (by unfold maxLen; exact hk)) (.lit (.int .i64 c')) [] (plainElem_int Tryz.underlying3 hw) ?_
 intro W3 hown3 hgrow3
 exact hK W3 ⟨below_of_grown h.bel hb hgrow3, _, hown3, Maps.IsMap.put m2 _ _, Maps.atKey_put_same m2 (by trivial) _ _⟩ hgrow3
theorem bal_del (hg : o.guard = none) (m x : Operand) (hop : o.op = Op.call { callee := Callee.builtin Builtin.delete, args := #[m, x], argTypes := #[215, 9] }) (hm : a.eval m = .map (some b)) (h : BalS w W b n k c) (hb : w.heap.size ≤ b) (hk : k.size ≤ 9223372036854775807) (hx : a.eval x = .string k)
  (hK : ∀ W', BalS w W' b n k 0 → wpList Tryz.prog ops Q rest (a.put o.dst (.tuple #[])) W') : wpList Tryz.prog ops Q (o :: rest) a W := by
 obtain ⟨D, m1, m2, m3⟩ := h.map
 refine wpList_delete_own _ hg m x 215 9 hop 3 marks_law Tryz.underlying215 _ b n D hm m1 _ (.string k.data.toList) hx (WideMaps.keyOf_string_mk Tryz.underlying9 (by unfold maxLen; exact hk)) ?_
 intro W3 hown3 hturn3
 exact hK W3 ⟨below_of_grown h.bel hb hturn3.grown, _, hown3, m2.del _, Maps.atKey_del_same _⟩
end
set_option maxRecDepth 100000 in
set_option maxHeartbeats 8000000 in
theorem balance1_c (b : Br) (r : Rn) (hrm : r.mark = b.mark) (hbc : b.count = 1) (hrc : r.count = 1) (hlaid : laidB [b] [r] = true) (v u : Value) (w : World) (hl : Bars w v [b]) (hr : Runs w u [r]) :
  Calls Tryz.prog 88 #[v, u] w (Ret w (.tuple #[.slice none 0 0, .int .i64 0])) := by
 have HL := hd0 hl
 have HR := hd0 hr
 have HV := hd0 hlaid
 obtain ⟨va, vc, rfl, -, -, g4⟩ := hl.shape
 obtain ⟨ua, uc, rfl, -, -, g5⟩ := hr.shape
 obtain ⟨ok, b0, o0, rfl, c0, c1, c2, c3, c4⟩ := g4 0 (by simp)
 obtain ⟨rk, r0, p0, rfl, d0, d1, d2, d3, d4, d5, d6, d7, d8, d9⟩ := g5 0 (by simp)
 simp only [List.getElem_cons_zero, Nat.zero_mul, Nat.add_zero, hrm, hbc, hrc] at c0 c1 c2 c3 c4 d0 d1 d2 d3 d4 d5 d6 d7 d8 d9
 obtain ⟨ad, cd, ed, -⟩ := ok.dims
 simp only [List.getElem_cons_zero] at ed
 rw [ed] at c4
 generalize b.dims.length = nd at *
 have HMK := hd0 (show b.mark.size ≤ 9223372036854775807 from ok.mark)
 generalize b.mark = mk at *
 have HC0 := hd0 c0
 have HC1 := hd0 c1
 have HC2 := hd0 c2
 have HC3 := hd0 c3
 have HC4 := hd0 c4
 have HD := hd0 (And.intro d0 (And.intro d1 (And.intro d2 (And.intro d3 (And.intro d4 (And.intro d5 (And.intro d6 (And.intro d7 (And.intro d8 d9)))))))))
 have hmm := @run_makeMap Tryz.prog
 clear hl hr hlaid g4 g5 ok rk c0 c1 c2 c3 c4 d0 d1 d2 d3 d4 d5 d6 d7 d8 d9 hrm hbc hrc ed
 go_enter Tryz.func88, Tryz.ntmps88
 go_upto_region 4 with (go_at_call 84; refine (laidValid_v [b] [r] _ _ _ HV.out _ (HL.out.below gro) (HR.out.below gro)).mono ?_; rintro e w' ⟨rfl, x1, rfl⟩)
 obtain ⟨m, hm⟩ : ∃ g, g = w.heap.size + x1.heap.size := ⟨_, rfl⟩
 rw [← hm]
 refine world_mask (fun W => BalS w W m 0 mk 0 ∧ w.heap.size ≤ m) _ ?_ ?_
 ·have hb1 : Below (ext w x1).heap.size (ext w x1) ((ext w x1).alloc (.map #[] 0)) := gro
  have hb0 : Below w.heap.size w (ext w x1) := gro
  exact ⟨⟨hb0.trans (hb1.mono hb0.size), by rw [hm, ← size_ext w x1]; exact BalM.made _ _⟩, by omega⟩
 clear hm hmm
 rintro W1 ⟨st1, hgm⟩
 have HG := hd0 hgm
 have ST1 := hd0 st1
 have c0 := cell_upB st1.bel HC0.out
 have c1 := cell_upB st1.bel HC1.out
 have c2 := cell_upB st1.bel HC2.out
 have c3 := cell_upB st1.bel HC3.out
 have c4 := cell_upB st1.bel HC4.out
 clear st1 hgm
 go_wp2_with fail
 refine wp_loop_rounds 2 ?_
 rw [rounds_succ]
 go_upto_region 8 with (at_mapUpdate; refine bal_put (c' := 1) rfl _ _ _ rfl rfl (ST1.out.up gro) HG.out (by unfold maxLen; omega) HMK.out rfl rfl rfl ?_; intro W3 st3; have ST3 := hd0 st3; clear st3)
 clear c0 c1 c2 c3 c4 ST1
 go_wp2_with fail
 rw [rounds_succ]
 have d0 := cell_upB ST3.out.bel HD.out.1
 have d1 := cell_upB ST3.out.bel HD.out.2.1
 have d2 := cell_upB ST3.out.bel HD.out.2.2.1
 have d3 := cell_upB ST3.out.bel HD.out.2.2.2.1
 have d4 := cell_upB ST3.out.bel HD.out.2.2.2.2.1
 have d5 := cell_upB ST3.out.bel HD.out.2.2.2.2.2.1
 have d6 := cell_upB ST3.out.bel HD.out.2.2.2.2.2.2.1
 have d7 := cell_upB ST3.out.bel HD.out.2.2.2.2.2.2.2.1
 have d8 := cell_upB ST3.out.bel HD.out.2.2.2.2.2.2.2.2.1
 have d9 := cell_upB ST3.out.bel HD.out.2.2.2.2.2.2.2.2.2
 go_wp2_with fail
 refine wp_loop_rounds 2 ?_
 rw [rounds_succ]
 go_upto_region 13 with (first | (at_lookup; refine bal_look rfl _ _ rfl rfl (ST3.out.up gro) HMK.out rfl ?_) | (at_mapUpdate; refine bal_put2 (c' := 0) rfl _ _ _ rfl rfl (ST3.out.up gro) HG.out (by unfold maxLen; omega) HMK.out rfl rfl rfl ?_; intro W4 st4 sm4; have ST4 := hd0 st4; have L4 := hd0 (cell_fresh ST3.out.map.lt sm4 0); clear st4 sm4))
 clear d0 d1 d2 d3 d4 d5 d6 d7 d8 d9
 have l0 : W4.cell? ⟨W3.heap.size, 0, none⟩ = some (.string mk) := L4.out
 go_upto_region 15 with (first | (at_lookup; refine bal_look rfl _ _ rfl rfl ST4.out HMK.out rfl ?_) | (at_delete; refine bal_del rfl _ _ rfl rfl ST4.out HG.out HMK.out rfl ?_; intro W5 st5; have ST5 := hd0 st5; clear st5))
 clear l0 L4 ST4
 go_wp2_with fail
 rw [rounds_succ]
 have c0 := cell_upB ST5.out.bel HC0.out
 have c1 := cell_upB ST5.out.bel HC1.out
 have c2 := cell_upB ST5.out.bel HC2.out
 have c3 := cell_upB ST5.out.bel HC3.out
 have c4 := cell_upB ST5.out.bel HC4.out
 go_wp2_with fail
 refine wp_loop_rounds 2 ?_
 rw [rounds_succ]
 go_wp2_with (at_lookup; refine bal_look rfl _ _ rfl rfl (ST5.out.up gro) HMK.out rfl ?_)
 rw [rounds_succ]
 go_wp2
 go_ret2
 exact Ret.of (ST5.out.up gro).bel
end Go.Proofs.YtkjljneehgmmaaaGreat

namespace Go.Proofs.YtkjljneehgmmaaaGreat
set_option linter.unusedVariables false
set_option linter.unusedSimpArgs false
open Go Go.RowKit
set_option maxRecDepth 20000
set_option maxHeartbeats 8000000
set_option maxRecDepth 100000

theorem detValid_c (x : Dt) (hv : DtV x) (w : World) (h : DtAt w x) : Calls Tryz.prog 85 #[(.agg #[.string x.q.name, x.q.u, x.q.t, .int .i64 x.q.cover, .int .i64 x.q.agg, .int .i64 x.q.poker, x.lv, x.rv, x.pv, x.dv, .int .i64 x.ru.num, .int .i64 x.ru.den, .int .i64 x.ru.pn, .int .i64 x.ru.pd, .int .i64 x.ru.bn, .int .i64 x.ru.bd, .int .i64 x.ru.ln, .int .i64 x.ru.ld, .int .i64 x.ru.least])] w (Ret w (.bool true)) := by
 have HX := hd0 h
 have HLV := hd0 (lapValid_c x hv)
 clear h hv
 go_enter Tryz.func85, Tryz.ntmps85
 go_upto_region 1 with fail
 refine world_mask (fun W => Below w.heap.size w W ∧ Blk W w.heap.size (dtC x) 34) _ ⟨gro, Blk.new _ _ _⟩ ?_
 rintro W1 ⟨hb1, K1⟩
 have HB1 := hd0 hb1
 have HK1 := hd0 K1
 clear hb1 K1
 go_wp2_with (first | (refine wpList_load_row rfl _ _ rfl _ rfl _ (dtC x) _ _ HK1.out rfl rfl rfl ?_) | (go_at_call 27; refine (HLV.out _ (HX.out.below HB1.out)).mono ?_; rintro e w' ⟨rfl, x1, rfl⟩))
 go_ret
 exact Ret.of (grob HB1.out)
structure Det1 (x : Dt) (b : Br) (r : Rn) : Prop where
 v : DtV x
 l : x.l = [b]
 rs : x.rs = [r]
 shape : shapeB b = true
 size : b.size = 12
 legs : (legsN b).length = 1
 mark : r.mark = b.mark
 bc : b.count = 1
 rc : r.count = 1
 lp : x.lp = []
 cov : coverTo x.q [b] [r] 1 = []
 chk : chkI x x.dm = []
theorem Det1.count {x : Dt} {b : Br} {r : Rn} (h : Det1 x b r) : countS [r] = 1 := by
 show countS ([r] : List Rn) = 1
 simp [countS, h.rc]
structure DS (w W : World) (x : Dt) (g : Nat) : Prop where
 bel : Below w.heap.size w W
 blk : Blk W w.heap.size (dtC x) 34
 lst : Blk W g #[.slice none 0 0, .int .i64 0] 172
theorem DS.up {w W W' : World} {x : Dt} {g : Nat} (h : DS w W x g) (hb : Below W.heap.size W W') : DS w W' x g :=
 ⟨h.bel.trans (hb.mono h.bel.size), h.blk.below hb, h.lst.below hb⟩
theorem detCheck1_c (x : Dt) (b : Br) (r : Rn) (D : Det1 x b r) (w : World) (h : DtAt w x) : Calls Tryz.prog 46 #[(.agg #[.string x.q.name, x.q.u, x.q.t, .int .i64 x.q.cover, .int .i64 x.q.agg, .int .i64 x.q.poker, x.lv, x.rv, x.pv, x.dv, .int .i64 x.ru.num, .int .i64 x.ru.den, .int .i64 x.ru.pn, .int .i64 x.ru.pd, .int .i64 x.ru.bn, .int .i64 x.ru.bd, .int .i64 x.ru.ln, .int .i64 x.ru.ld, .int .i64 x.ru.least])] w (Ret w (.tuple #[.slice none 0 0, .int .i64 0])) := by
 have HX := hd0 h
 have HDV := hd0 (detValid_c x D.v)
 have HLC := hd0 (lapCheck0_c x D.v D.lp)
 have HSC := hd0 (fun w h => (secCheck_c x D.v (by rw [D.rs, D.count]; decide) w h).mono (fun e W hh => fds_len (by rw [D.chk]; rfl : _ = 0) hh))
 have HBC := hd0 (bendCheck_c b D.shape D.size D.legs)
 have hl := h.l
 have hr := h.rs
 have hq := h.q
 rw [D.l] at hl
 rw [D.rs] at hr
 have hlaid := D.v.laid
 rw [D.l, D.rs] at hlaid
 have HBL := hd0 (fun w hl hr => balance1_c b r D.mark D.bc D.rc hlaid x.lv x.rv w hl hr)
 have HCV := hd0 (fun w hq hl hr => (Check18_ok x.q [b] [r] x.lv x.rv D.v.q hlaid (by rw [D.count]; decide) w hq hl hr).mono (fun e W hh => fds_len (N := 0) (by rw [D.count]; exact congrArg List.length D.cov) hh))
 have HL := hd0 hl
 have HR := hd0 hr
 have HQ := hd0 hq
 obtain ⟨va, vc, elv, -, -, g4⟩ := hl.shape
 obtain ⟨ok, b0, o0, rfl, c0, c1, c2, c3, c4⟩ := g4 0 (by simp)
 obtain ⟨ua, uc, erv, -, -, -⟩ := hr.shape
 obtain ⟨ad, cd, ed, -⟩ := ok.dims
 simp only [List.getElem_cons_zero, Nat.zero_mul, Nat.add_zero] at c0 c1 c2 c3 c4 ed ok
 rw [ed] at c4
 have HOK := hd0 ok
 have HED := hd0 ed
 rw [show ([b] : List Br).length = 1 from rfl] at elv
 rw [show ([r] : List Rn).length = 1 from rfl] at erv
 rw [elv] at HBL HCV HL
 rw [erv] at HBL HCV HR
 have HC0 := hd0 c0
 have HC1 := hd0 c1
 have HC2 := hd0 c2
 have HC3 := hd0 c3
 have HC4 := hd0 c4
 have HE6 := hd0 elv
 have HE7 := hd0 erv
 clear hl hr hq hlaid g4 c0 c1 c2 c3 c4 ok ed elv erv h D
 go_enter Tryz.func46, Tryz.ntmps46
 go_upto_region 1 with fail
 refine world_mask (fun W => Below w.heap.size w W ∧ Blk W w.heap.size (dtC x) 34) _ ⟨gro, Blk.new _ _ _⟩ ?_
 rintro W1 ⟨hb1, K1⟩
 have HB1 := hd0 hb1
 have HK1 := hd0 K1
 clear hb1 K1
 go_upto_region 4 with (first | (refine wpList_load_row rfl _ _ rfl _ rfl _ (dtC x) _ _ HK1.out rfl rfl rfl ?_) | (go_at_call 85; refine (HDV.out _ (HX.out.below HB1.out)).mono ?_; rintro e w' ⟨rfl, x1, rfl⟩))
 obtain ⟨g, hg⟩ : ∃ g, g = W1.heap.size + x1.heap.size := ⟨_, rfl⟩
 rw [← hg]
 refine world_mask (fun W => DS w W x g) _ ?_ ?_
 ·have hb1 : Below W1.heap.size W1 ((ext W1 x1).alloc (.cells #[.slice none 0 0, .int .i64 0] 172)) := gro
  exact ⟨HB1.out.trans (hb1.mono HB1.out.size), HK1.out.below hb1, by rw [hg, ← size_ext W1 x1]; exact Blk.new _ _ _⟩
 clear hg HK1 HB1
 rintro W2 st2
 have ST2 := hd0 st2
 have e6 := (st2.blk.cell 6).trans (congrArg some HE6.out)
 have c0 := cell_upB st2.bel HC0.out
 have c1 := cell_upB st2.bel HC1.out
 have c2 := cell_upB st2.bel HC2.out
 have c3 := cell_upB st2.bel HC3.out
 have c4 := cell_upB st2.bel HC4.out
 clear st2
 go_wp2_with fail
 refine wp_loop_rounds 2 ?_
 rw [rounds_succ]
 go_upto_region 7 with fail
 refine world_mask (fun W => DS w W x g ∧ Blk W W2.heap.size #[.string b.mark, .int .i64 b.size, .int .i64 b.count, .int .i64 b.code, .slice ad b.dims.length cd] 81) _ ⟨ST2.out.up gro, Blk.new _ _ _⟩ ?_
 clear e6 c0 c1 c2 c3 c4 ST2
 rintro W3 ⟨st3, K3⟩
 have ST3 := hd0 st3
 have HK3 := hd0 K3
 have HB3 := hd0 (HOK.out.below st3.bel)
 rw [HED.out] at HBC
 clear st3 K3
 go_upto_region 9 with (first | (refine wpList_load_row rfl _ _ rfl _ rfl _ #[.string b.mark, .int .i64 b.size, .int .i64 b.count, .int .i64 b.code, .slice ad b.dims.length cd] _ _ HK3.out rfl rfl rfl ?_) | (go_at_call 86; refine (HBC.out _ HB3.out).mono ?_; rintro e w' ⟨rfl, x2, rfl⟩) | (go_at_call 87; refine (add0_c g _ _ _ _ _ (ST3.out.up gro).lst).mono ?_; rintro e W ⟨rfl, rfl⟩))
 refine world_mask (fun W => DS w W x g) _ (ST3.out.up gro) ?_
 clear ST3 HK3 HB3 HBC
 rintro W4 st4
 have ST4 := hd0 st4
 have e6 := (st4.blk.cell 6).trans (congrArg some HE6.out)
 have e7 := (st4.blk.cell 7).trans (congrArg some HE7.out)
 clear st4
 go_wp2_with fail
 rw [rounds_succ]
 go_upto_region 11 with (go_at_call 88; refine (HBL.out _ (HL.out.below ST4.out.bel) (HR.out.below ST4.out.bel)).mono ?_; rintro e w' ⟨rfl, x3, rfl⟩)
 clear e6 e7
 go_upto_region 12 with (go_at_call 87; refine (add0_c g _ _ _ _ _ (ST4.out.up gro).lst).mono ?_; rintro e W ⟨rfl, rfl⟩)
 refine world_mask (fun W => DS w W x g) _ (ST4.out.up gro) ?_
 clear ST4
 rintro W5 st5
 have ST5 := hd0 st5
 have e6 := (st5.blk.cell 6).trans (congrArg some HE6.out)
 have e7 := (st5.blk.cell 7).trans (congrArg some HE7.out)
 have m0 : W5.cell? ⟨w.heap.size, 0, none⟩ = some (.string x.q.name) := st5.blk.cell 0
 have m1 : W5.cell? ⟨w.heap.size, 1, none⟩ = some (x.q.u) := st5.blk.cell 1
 have m2 : W5.cell? ⟨w.heap.size, 2, none⟩ = some (x.q.t) := st5.blk.cell 2
 have m3 : W5.cell? ⟨w.heap.size, 3, none⟩ = some (.int .i64 x.q.cover) := st5.blk.cell 3
 have m4 : W5.cell? ⟨w.heap.size, 4, none⟩ = some (.int .i64 x.q.agg) := st5.blk.cell 4
 have m5 : W5.cell? ⟨w.heap.size, 5, none⟩ = some (.int .i64 x.q.poker) := st5.blk.cell 5
 clear st5
 go_upto_region 14 with (first | (go_at_call 89; refine (HCV.out _ (HQ.out.below ST5.out.bel) (HL.out.below ST5.out.bel) (HR.out.below ST5.out.bel)).mono ?_; rintro e W ⟨a1, k1, rfl, -, -, y1, rfl⟩) | (go_at_call 87; refine (add0_c g _ _ _ _ _ (ST5.out.up gro).lst).mono ?_; rintro e W ⟨rfl, rfl⟩))
 clear e6 e7 m0 m1 m2 m3 m4 m5
 refine world_mask (fun W => DS w W x g) _ (ST5.out.up gro) ?_
 clear ST5
 rintro W6 st6
 have ST6 := hd0 st6
 have HK6 := hd0 st6.blk
 clear st6
 go_upto_region 16 with (first | (refine wpList_load_row rfl _ _ rfl _ rfl _ (dtC x) _ _ HK6.out rfl rfl rfl ?_) | (go_at_call 90; refine (HLC.out _ (HX.out.below ST6.out.bel)).mono ?_; rintro e w' ⟨rfl, x5, rfl⟩) | (go_at_call 87; refine (add0_c g _ _ _ _ _ (ST6.out.up gro).lst).mono ?_; rintro e W ⟨rfl, rfl⟩))
 clear HK6
 refine world_mask (fun W => DS w W x g) _ (ST6.out.up gro) ?_
 clear ST6
 rintro W7 st7
 have ST7 := hd0 st7
 have HK7 := hd0 st7.blk
 clear st7
 go_upto_region 18 with (first | (refine wpList_load_row rfl _ _ rfl _ rfl _ (dtC x) _ _ HK7.out rfl rfl rfl ?_) | (go_at_call 32; refine (HSC.out _ (HX.out.below ST7.out.bel)).mono ?_; rintro e W ⟨a2, k2, rfl, -, -, y2, rfl⟩) | (go_at_call 87; refine (add0_c g _ _ _ _ _ (ST7.out.up gro).lst).mono ?_; rintro e W ⟨rfl, rfl⟩))
 clear HK7
 refine world_mask (fun W => DS w W x g) _ (ST7.out.up gro) ?_
 clear ST7
 rintro W8 st8
 have ST8 := hd0 st8
 have l0 := st8.lst.cell 0
 have l1 := st8.lst.cell 1
 clear st8
 go_wp2
 go_ret2
 exact Ret.of (by (repeat (first | exact grow_refl _ | exact (hd0 ST8.out.bel).out | refine grow_ext _ ?_ | refine grow_alloc _ ?_ | refine grow_drew ?_)))
theorem detPasses1_c (x : Dt) (b : Br) (r : Rn) (D : Det1 x b r) (w : World) (h : DtAt w x) : Calls Tryz.prog 18 #[(.agg #[.string x.q.name, x.q.u, x.q.t, .int .i64 x.q.cover, .int .i64 x.q.agg, .int .i64 x.q.poker, x.lv, x.rv, x.pv, x.dv, .int .i64 x.ru.num, .int .i64 x.ru.den, .int .i64 x.ru.pn, .int .i64 x.ru.pd, .int .i64 x.ru.bn, .int .i64 x.ru.bd, .int .i64 x.ru.ln, .int .i64 x.ru.ld, .int .i64 x.ru.least])] w (Ret w (.tuple #[.bool true, .int .i64 0])) := by
 have HX := hd0 h
 have HDC := hd0 (detCheck1_c x b r D)
 clear h D
 go_enter Tryz.func18, Tryz.ntmps18
 go_upto_region 1 with fail
 refine world_mask (fun W => Below w.heap.size w W ∧ Blk W w.heap.size (dtC x) 34) _ ⟨gro, Blk.new _ _ _⟩ ?_
 rintro W1 ⟨hb1, K1⟩
 have HB1 := hd0 hb1
 have HK1 := hd0 K1
 clear hb1 K1
 go_wp2_with (first | (refine wpList_load_row rfl _ _ rfl _ rfl _ (dtC x) _ _ HK1.out rfl rfl rfl ?_) | (go_at_call 46; refine (HDC.out _ (HX.out.below HB1.out)).mono ?_; rintro e w' ⟨rfl, x1, rfl⟩))
 go_ret2
 exact Ret.of (grob HB1.out)

def sl1 (g : Nat) : Value := .slice (some ⟨g, 0, none⟩) 1 1
def beamB (du : Value) : Br := ⟨⟨#[97]⟩, 12, 1, 0, [2000], du⟩
def beamR : Rn := ⟨⟨#[97]⟩, 1, 2, 100, 50, 50, 0, 0, 0, 1⟩
def beamX : Bx := ⟨0, 0, 0, 3000, 200, 400⟩
def beamM (u : Value) : Mb := ⟨⟨#[109]⟩, [beamX], [], u, .slice none 0 0, 0, 20, 40⟩
def beamF (su : Value) : Dm := ⟨⟨#[108, 111, 119]⟩, ⟨0, 0, 0, 0, 200, 100⟩, [(580, 11310), (1620, 0)], su⟩
def beamD (u du bv rv su dv : Value) : Dt := ⟨beamM u, [beamB du], bv, [beamR], rv, [], .slice none 0 0, [beamF su], dv, ⟨40, 1, 10, 7, 7, 10, 3, 2, 100⟩⟩
theorem beam_at {W : World} {g0 g1 g2 g3 g4 g5 : Nat} (h0 : Blk W g0 #[.int .i64 0, .int .i64 0, .int .i64 0, .int .i64 3000, .int .i64 200, .int .i64 400] 40) (h1 : Blk W g1 #[.int .i64 2000] 3)
  (h2 : Blk W g2 #[.string ⟨#[97]⟩, .int .i64 12, .int .i64 1, .int .i64 0, sl1 g1] 81) (h3 : Blk W g3 #[.string ⟨#[97]⟩, .int .i64 1, .int .i64 2, .int .i64 100, .int .i64 50, .int .i64 50, .int .i64 0, .int .i64 0, .int .i64 0, .int .i64 1] 118)
  (h4 : Blk W g4 #[.int .i64 580, .int .i64 11310, .int .i64 1620, .int .i64 0] 109) (h5 : Blk W g5 #[.string ⟨#[108, 111, 119]⟩, .int .i64 0, .int .i64 0, .int .i64 0, .int .i64 0, .int .i64 200, .int .i64 100, .slice (some ⟨g4, 0, none⟩) 2 2] 43) :
  DtAt W (beamD (sl1 g0) (sl1 g1) (sl1 g2) (sl1 g3) (.slice (some ⟨g4, 0, none⟩) 2 2) (sl1 g5)) := by
 refine ⟨⟨by show (1 : Nat) ≤ _; decide, ⟨some ⟨g0, 0, none⟩, 1, rfl, Nat.le_refl _, by decide, fun i hi => ?_⟩, ⟨none, 0, rfl, Nat.le_refl _, by decide, fun i hi => absurd hi (Nat.not_lt_zero _)⟩⟩, ⟨some ⟨g2, 0, none⟩, 1, rfl, Nat.le_refl _, by decide, fun i hi => ?_⟩, ⟨some ⟨g3, 0, none⟩, 1, rfl, Nat.le_refl _, by decide, fun i hi => ?_⟩, prs_nil W, ⟨some ⟨g5, 0, none⟩, 1, rfl, Nat.le_refl _, by decide, fun i hi => ?_⟩⟩
 ·obtain rfl : i = 0 := by have : i < 1 := hi; omega
  exact ⟨g0, 0, rfl, h0.cell 0, h0.cell 1, h0.cell 2, h0.cell 3, h0.cell 4, h0.cell 5⟩
 ·obtain rfl : i = 0 := by have : i < 1 := hi; omega
  refine ⟨⟨by show (1 : Nat) ≤ _; decide, ⟨some ⟨g1, 0, none⟩, 1, rfl, Nat.le_refl _, by decide, fun j hj => ?_⟩⟩, g2, 0, rfl, h2.cell 0, h2.cell 1, h2.cell 2, h2.cell 3, h2.cell 4⟩
  obtain rfl : j = 0 := by have : j < 1 := hj; omega
  exact ⟨g1, 0, rfl, h1.cell 0⟩
 ·obtain rfl : i = 0 := by have : i < 1 := hi; omega
  exact ⟨by show (1 : Nat) ≤ _; decide, g3, 0, rfl, h3.cell 0, h3.cell 1, h3.cell 2, h3.cell 3, h3.cell 4, h3.cell 5, h3.cell 6, h3.cell 7, h3.cell 8, h3.cell 9⟩
 ·obtain rfl : i = 0 := by have : i < 1 := hi; omega
  refine ⟨⟨by show (3 : Nat) ≤ _; decide, ⟨some ⟨g4, 0, none⟩, 2, rfl, Nat.le_refl _, by decide, fun j hj => ?_⟩⟩, g5, 0, rfl, h5.cell 0, h5.cell 1, h5.cell 2, h5.cell 3, h5.cell 4, h5.cell 5, h5.cell 6, h5.cell 7⟩
  have hj' : j < 2 := hj
  match j, hj' with
  | 0, _ => exact ⟨g4, 0, rfl, h4.cell 0, h4.cell 1⟩
  | 1, _ => exact ⟨g4, 0, rfl, h4.cell 2, h4.cell 3⟩
def RetBeam (w : World) (e : Ending) (W : World) : Prop := ∃ g0 g1 g2 g3 g4 g5, e = .returned (.agg (dtC (beamD (sl1 g0) (sl1 g1) (sl1 g2) (sl1 g3) (.slice (some ⟨g4, 0, none⟩) 2 2) (sl1 g5)))) ∧ DtAt W (beamD (sl1 g0) (sl1 g1) (sl1 g2) (sl1 g3) (.slice (some ⟨g4, 0, none⟩) 2 2) (sl1 g5)) ∧ ∃ x, W = ext w x
theorem alloc_size (W : World) (o : Obj) : (W.alloc o).heap.size = W.heap.size + 1 := by show (W.heap.push o).size = _; simp
set_option maxRecDepth 100000 in
set_option maxHeartbeats 8000000 in
theorem beam_c (w : World) : Calls Tryz.prog 17 #[] w (RetBeam w) := by
 go_enter Tryz.func17, Tryz.ntmps17
 go_upto_region 1 with fail
 refine world_mask (fun W => Below w.heap.size w W ∧ Blk W w.heap.size #[.string ⟨#[]⟩, .slice none 0 0, .slice none 0 0, .int .i64 0, .int .i64 0, .int .i64 0, .slice none 0 0, .slice none 0 0, .slice none 0 0, .slice none 0 0, .int .i64 0, .int .i64 0, .int .i64 0, .int .i64 0, .int .i64 0, .int .i64 0, .int .i64 0, .int .i64 0, .int .i64 0] 34) _ ⟨gro, Blk.new _ _ _⟩ ?_
 rintro W1 ⟨hb1, K1⟩
 have HK1 := hd0 K1
 have HB1 := hd0 hb1
 clear hb1 K1
 go_wp2_with (refine wpList_store_row rfl _ _ _ rfl w.heap.size _ rfl rfl _ _ ((HK1.out.below gro)) rfl rfl (by simp [Value.oneCell']) ?_)
 have hlt := HK1.out.lt
 refine bodyPost_ret (v := .agg (dtC (beamD (sl1 W1.heap.size) (sl1 (W1.heap.size + 1)) (sl1 (W1.heap.size + 1 + 1)) (sl1 (W1.heap.size + 1 + 1 + 1)) (.slice (some ⟨W1.heap.size + 1 + 1 + 1 + 1, 0, none⟩) 2 2) (sl1 (W1.heap.size + 1 + 1 + 1 + 1 + 1))))) (results_cell_row rfl _ _ w.heap.size _ _ _ _ rfl (blk_row (HK1.out.below gro) _) rfl rfl rfl) rfl ?_
 refine ⟨_, _, _, _, _, _, rfl, beam_at (blk_row_other ((((((Blk.new _ _ _).alloc _).alloc _).alloc _).alloc _).alloc _) (by omega) _) (blk_row_other (((((Blk.new' (by simp only [alloc_size]) _ _).alloc _).alloc _).alloc _).alloc _) (by omega) _) (blk_row_other ((((Blk.new' (by simp only [alloc_size]) _ _).alloc _).alloc _).alloc _) (by omega) _) (blk_row_other (((Blk.new' (by simp only [alloc_size]) _ _).alloc _).alloc _) (by omega) _) (blk_row_other ((Blk.new' (by simp only [alloc_size]) _ _).alloc _) (by omega) _) (blk_row_other (Blk.new' (by simp only [alloc_size]) _ _) (by omega) _), ext_of (below_row (HB1.out.trans (Below.mono (show Below W1.heap.size W1 _ from gro) HB1.out.size)) (Nat.le_refl _) _)⟩
end Go.Proofs.YtkjljneehgmmaaaGreat


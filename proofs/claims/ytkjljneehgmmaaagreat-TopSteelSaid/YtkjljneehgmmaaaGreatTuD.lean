/- TopSteel: stirrupref25.Small and Valid, reinRight. -/
import Derived.Deep.DeepCutAuto
import Derived.Deep.CutBlock
import Derived.Test.YtkjljneehgmmaaaGreatTuC
import Derived.Test.YtkjljneehgmmaaaGreatAbK3
import Derived.Test.YtkjljneehgmmaaaGreatTtV
import Derived.Test.YtkjljneehgmmaaaGreatAaK9
import Derived.Test.YtkjljneehgmmaaaGreatAaK7
namespace Go.Proofs.YtkjljneehgmmaaaGreat
set_option linter.unusedVariables false
set_option linter.unusedSimpArgs false
open Go Go.RowKit
set_option maxRecDepth 20000
set_option maxHeartbeats 8000000
set_option maxRecDepth 100000

theorem refSmall25_c (x : Dt) (w : World) (h : DtAt w x) : Calls Tryz.prog 19 #[(.agg #[.string x.q.name, x.q.u, x.q.t, .int .i64 x.q.cover, .int .i64 x.q.agg, .int .i64 x.q.poker, x.lv, x.rv, x.pv, x.dv, .int .i64 x.ru.num, .int .i64 x.ru.den, .int .i64 x.ru.pn, .int .i64 x.ru.pd, .int .i64 x.ru.bn, .int .i64 x.ru.bd, .int .i64 x.ru.ln, .int .i64 x.ru.ld, .int .i64 x.ru.least])] w (RetP' w ((∀ r ∈ x.rs, 1 ≤ r.count ∧ r.count ≤ 1000) → x.rs.length ≤ 60 → countS x.rs ≤ 16)) := by
 have HX := hd0 h
 obtain ⟨pa, pc, epv, -, -, -⟩ := h.lp.shape
 have HPV := hd0 epv
 clear epv
 obtain ⟨s17, h17⟩ : ∃ s, smallB x.q.l.length x.q.m.length 4 = s := ⟨_, rfl⟩
 have H17 := hd0 h17
 clear h17 h
 go_enter Tryz.func19, Tryz.ntmps19
 go_upto_region 1 with fail
 refine world_mask (fun W => Below w.heap.size w W ∧ Blk W w.heap.size (dtC x) 34) _ ⟨gro, Blk.new _ _ _⟩ ?_
 rintro W1 ⟨hb1, K1⟩
 have HB1 := hd0 hb1
 have e0 : W1.cell? ⟨w.heap.size, 0, none⟩ = some (.string x.q.name) := K1.cell 0
 have e1 : W1.cell? ⟨w.heap.size, 1, none⟩ = some x.q.u := K1.cell 1
 have e2 : W1.cell? ⟨w.heap.size, 2, none⟩ = some x.q.t := K1.cell 2
 have e6 : W1.cell? ⟨w.heap.size, 6, none⟩ = some x.lv := K1.cell 6
 have e7 : W1.cell? ⟨w.heap.size, 7, none⟩ = some x.rv := K1.cell 7
 have e8 : W1.cell? ⟨w.heap.size, 8, none⟩ = some (.slice pa x.lp.length pc) := by rw [← HPV.out]; exact K1.cell 8
 have e9 : W1.cell? ⟨w.heap.size, 9, none⟩ = some x.dv := K1.cell 9
 clear hb1 K1
 generalize x.lp.length = n at *
 cases t1 : decide ((60 : Int) < (x.q.name.size : Int))
 ·cases s17
  ·go_wp2_with fail
   go_at_call 47; refine (refSmall_v x.q.l x.q.m _ _ 4 _ H17.out _ (HX.out.q.boxes.below HB1.out) (HX.out.q.holes.below HB1.out)).mono ?_; rintro e w' ⟨rfl, y1, rfl⟩
   go_wp2
   go_ret
   exact ⟨false, rfl, fun h => (by cases h), ext_of (grob HB1.out)⟩
  go_wp2_with fail
  go_at_call 47; refine (refSmall_v x.q.l x.q.m _ _ 4 _ H17.out _ (HX.out.q.boxes.below HB1.out) (HX.out.q.holes.below HB1.out)).mono ?_; rintro e w' ⟨rfl, y1, rfl⟩
  go_wp2_with fail
  go_at_call 48; refine (refSmall16s_c x.l x.rs x.lv x.rv 6 16 (by decide) (by decide) _ (HX.out.l.below (grob HB1.out)) (HX.out.rs.below (grob HB1.out))).mono ?_; rintro e W ⟨q, rfl, hq, y2, rfl⟩
  have HQ := hd0 hq
  clear hq
  cases q
  ·go_wp2
   go_ret
   exact ⟨false, rfl, fun h => (by cases h), ext_of (grob HB1.out)⟩
  go_wp2_with fail
  go_at_call 49; refine (refSmall23_c x.dm _ _ (HX.out.dm.below (grob HB1.out))).mono ?_; rintro e W ⟨q, rfl, hq, y3, rfl⟩
  clear hq
  cases q
  ·go_wp2
   go_ret
   exact ⟨false, rfl, fun h => (by cases h), ext_of (grob HB1.out)⟩
  cases t2 : decide ((n : Int) ≤ 16)
  ·cases t3 : decide ((1000 : Int) < (n : Int))
   ·go_wp2
    go_ret
    exact ⟨false, rfl, fun h => (by cases h), ext_of (grob HB1.out)⟩
   ·obtain ⟨t, t4⟩ : ∃ t, decide ((n : Int) ≤ 1005) = t := ⟨_, rfl⟩
    go_wp2
    go_ret
    exact ⟨t, rfl, fun _ => HQ.out (by trivial), ext_of (grob HB1.out)⟩
  ·go_wp2
   go_ret
   exact ⟨true, rfl, fun _ => HQ.out (by trivial), ext_of (grob HB1.out)⟩
 ·go_wp2
  go_ret
  exact ⟨false, rfl, fun h => (by cases h), ext_of (grob HB1.out)⟩

structure JnJ (W1 : World) (P : Prop) (L : Array Bool) (vs : List Value) (W : World) : Prop where
 below : Below W1.heap.size W1 W
 r6 : L.getD 6 true = true → ∃ q, vs.getD 6 undef = .bool q ∧ (q = true → P)
 r7 : L.getD 7 true = true → ∃ q, vs.getD 7 undef = .bool (!q) ∧ (q = true → P)
theorem JnJ.part {W1 : World} {P : Prop} : PartG [6, 7] (fun L vs W => JnJ W1 P L vs W) :=
 ⟨fun L vs L' vs' W hk h => by
  have h6 := hk 6 (by simp)
  have h7 := hk 7 (by simp)
  exact ⟨h.below, by rw [← h6.1, ← h6.2]; exact h.r6, by rw [← h7.1, ← h7.2]; exact h.r7⟩,
 fun L vs W x h => ⟨h.below.trans (Below.mono (below_ext W x) h.below.size), h.r6, h.r7⟩⟩
theorem JnJ.init {W1 : World} {P : Prop} {vs : List Value} : JnJ W1 P (Array.replicate 8 false) vs W1.drew :=
 ⟨gro, fun e => (by rw [repL (show 6 < 8 by decide)] at e; cases e), fun e => (by rw [repL (show 7 < 8 by decide)] at e; cases e)⟩
theorem JnJ.res {W1 W : World} {P : Prop} {L : Array Bool} {vs vs' : List Value} {q : Bool} (h : JnJ W1 P L vs W) (h6 : vs'.getD 6 undef = .bool q) (h7 : vs'.getD 7 undef = vs.getD 7 undef) (hq : q = true → P) : JnJ W1 P (L.setIfInBounds 6 true) vs' W :=
 ⟨h.below, fun _ => ⟨q, h6, hq⟩, fun e => (by rw [getD_other (by decide)] at e; rw [h7]; exact h.r7 e)⟩
theorem JnJ.neg {W1 W : World} {P : Prop} {L : Array Bool} {vs vs' : List Value} {q : Bool} (h : JnJ W1 P L vs W) (h6 : vs'.getD 6 undef = vs.getD 6 undef) (h7 : vs'.getD 7 undef = .bool (!q)) (hq : q = true → P) : JnJ W1 P (L.setIfInBounds 7 true) vs' W :=
 ⟨h.below, fun e => (by rw [getD_other (by decide)] at e; rw [h6]; exact h.r6 e), fun _ => ⟨q, h7, hq⟩⟩
theorem wpList_load_rowG {P : Program} {ops : Array Oper} {rest : List Oper} {o : Oper} {a : Act} {w : World} {Q : Exit → Act → World → Prop} (hw : Region.wanted o (yielded ops a.tmps) = true) (ty : TypeId) (x : Operand) (ho : o.op = .load ty x)
  (g : Nat) (hx : a.eval x = .pointer (some ⟨g, 0, none⟩)) (t : TypeId) (cs : Array Value) (fr : Nat × Nat) (d : TypeDesc) (hg : w.heap[g]? = some (.cells cs t fr))
  (hu : P.underlying ty = some d) (hd : (match d with | .struct _ | .array _ _ => true | _ => false) = true) (hi : (P.info? ty).map (·.size) = some cs.size)
  (h : wpList P ops Q rest (a.put o.dst (.agg cs)) w) : wpList P ops Q (o :: rest) a w :=
 wpList_step fun _ hK => by rw [if_pos hw]; exact wp_load_row ty x ho g hx t cs fr d hg hu hd hi (hK _ _ h)
theorem refValid25_c (x : Dt) (w : World) (h : DtAt w x) : Calls Tryz.prog 20 #[(.agg #[.string x.q.name, x.q.u, x.q.t, .int .i64 x.q.cover, .int .i64 x.q.agg, .int .i64 x.q.poker, x.lv, x.rv, x.pv, x.dv, .int .i64 x.ru.num, .int .i64 x.ru.den, .int .i64 x.ru.pn, .int .i64 x.ru.pd, .int .i64 x.ru.bn, .int .i64 x.ru.bd, .int .i64 x.ru.ln, .int .i64 x.ru.ld, .int .i64 x.ru.least])] w (RetP' w (DtV x)) := by
 have HX := hd0 h
 obtain ⟨pa, pc, epv, -, -, p4⟩ := h.lp.shape
 have HPV := hd0 epv
 have P4 := hd0 p4
 clear epv p4
 obtain ⟨m1, hm1⟩ : ∃ s, memberB x.q.name x.q.l x.q.m x.q.cover x.q.agg x.q.poker = s := ⟨_, rfl⟩
 have HM1 := hd0 hm1
 obtain ⟨m2, hm2⟩ : ∃ s, laidB x.l x.rs = s := ⟨_, rfl⟩
 have HM2 := hd0 hm2
 clear hm1 hm2 h
 go_enter Tryz.func20, Tryz.ntmps20
 go_upto_region 1 with fail
 refine world_mask (fun W => Below w.heap.size w W ∧ Blk W w.heap.size (dtC x) 34) _ ⟨gro, Blk.new _ _ _⟩ ?_
 rintro W1 ⟨hb1, K1⟩
 have HB1 := hd0 hb1
 have HK1 := hd0 K1
 have e0 : W1.cell? ⟨w.heap.size, 0, none⟩ = some (.string x.q.name) := K1.cell 0
 have e1 : W1.cell? ⟨w.heap.size, 1, none⟩ = some x.q.u := K1.cell 1
 have e2 : W1.cell? ⟨w.heap.size, 2, none⟩ = some x.q.t := K1.cell 2
 have e3 : W1.cell? ⟨w.heap.size, 3, none⟩ = some (.int .i64 x.q.cover) := K1.cell 3
 have e4 : W1.cell? ⟨w.heap.size, 4, none⟩ = some (.int .i64 x.q.agg) := K1.cell 4
 have e5 : W1.cell? ⟨w.heap.size, 5, none⟩ = some (.int .i64 x.q.poker) := K1.cell 5
 have e6 : W1.cell? ⟨w.heap.size, 6, none⟩ = some x.lv := K1.cell 6
 have e7 : W1.cell? ⟨w.heap.size, 7, none⟩ = some x.rv := K1.cell 7
 have e8 : W1.cell? ⟨w.heap.size, 8, none⟩ = some (.slice pa x.lp.length pc) := by rw [← HPV.out]; exact K1.cell 8
 have e9 : W1.cell? ⟨w.heap.size, 9, none⟩ = some x.dv := K1.cell 9
 have u0 : W1.cell? ⟨w.heap.size, 10, none⟩ = some (.int .i64 x.ru.num) := K1.cell 10
 have u1 : W1.cell? ⟨w.heap.size, 11, none⟩ = some (.int .i64 x.ru.den) := K1.cell 11
 have u2 : W1.cell? ⟨w.heap.size, 12, none⟩ = some (.int .i64 x.ru.pn) := K1.cell 12
 have u3 : W1.cell? ⟨w.heap.size, 13, none⟩ = some (.int .i64 x.ru.pd) := K1.cell 13
 have u4 : W1.cell? ⟨w.heap.size, 14, none⟩ = some (.int .i64 x.ru.bn) := K1.cell 14
 have u5 : W1.cell? ⟨w.heap.size, 15, none⟩ = some (.int .i64 x.ru.bd) := K1.cell 15
 have u6 : W1.cell? ⟨w.heap.size, 16, none⟩ = some (.int .i64 x.ru.ln) := K1.cell 16
 have u7 : W1.cell? ⟨w.heap.size, 17, none⟩ = some (.int .i64 x.ru.ld) := K1.cell 17
 have u8 : W1.cell? ⟨w.heap.size, 18, none⟩ = some (.int .i64 x.ru.least) := K1.cell 18
 clear hb1 K1
 have HJT := hd0 (fun (hl : laidB x.l x.rs = true) j w h => refJoint_c x hl j w h)
 cases m1
 ·go_wp2_with fail
  go_at_call 50; refine (refMember_v x.q.name x.q.l x.q.m _ _ _ _ _ _ HM1.out HX.out.q.name _ (HX.out.q.boxes.below HB1.out) (HX.out.q.holes.below HB1.out)).mono ?_; rintro e w' ⟨rfl, y1, rfl⟩
  go_wp2
  go_ret
  exact ⟨false, rfl, fun h => (by cases h), ext_of (grob HB1.out)⟩
 go_wp2_with fail
 go_at_call 50; refine (refMember_v x.q.name x.q.l x.q.m _ _ _ _ _ _ HM1.out HX.out.q.name _ (HX.out.q.boxes.below HB1.out) (HX.out.q.holes.below HB1.out)).mono ?_; rintro e w' ⟨rfl, y1, rfl⟩
 cases m2
 ·go_wp2_with fail
  go_at_call 51; refine (refLaid_v x.l x.rs x.lv x.rv _ HM2.out _ (HX.out.l.below (grob HB1.out)) (HX.out.rs.below (grob HB1.out))).mono ?_; rintro e w' ⟨rfl, y2, rfl⟩
  go_wp2
  go_ret
  exact ⟨false, rfl, fun h => (by cases h), ext_of (grob HB1.out)⟩
 go_wp2_with fail
 go_at_call 51; refine (refLaid_v x.l x.rs x.lv x.rv _ HM2.out _ (HX.out.l.below (grob HB1.out)) (HX.out.rs.below (grob HB1.out))).mono ?_; rintro e w' ⟨rfl, y2, rfl⟩
 go_wp2_with fail
 go_at_call 52; refine (refDemands_c x.dm _ _ (HX.out.dm.below (grob HB1.out))).mono ?_; rintro e W ⟨q3, rfl, hq3, y3, rfl⟩
 have HQ3 := hd0 hq3
 clear hq3
 cases q3
 ·go_wp2
  go_ret
  exact ⟨false, rfl, fun h => (by cases h), ext_of (grob HB1.out)⟩
 have HDM := hd0 (HQ3.out rfl)
 clear HQ3
 go_wp2_with fail
 go_at_call 53; refine (refRule_c x.ru _).mono ?_; rintro e W ⟨q4, rfl, hq4, y4, rfl⟩
 have HQ4 := hd0 hq4
 clear hq4
 cases q4
 ·go_wp2
  go_ret
  exact ⟨false, rfl, fun h => (by cases h), ext_of (grob HB1.out)⟩
 have HRU := hd0 (HQ4.out rfl)
 clear HQ4
 cases t1 : decide ((1000 : Int) < (x.lp.length : Int))
 ·have HLN := hd0 (show x.lp.length ≤ 1000 by simp at t1; omega)
  have HB2 := hd0 (show Below w.heap.size w (ext (ext (ext (ext W1 y1) y2) y3) y4) from grob HB1.out)
  have HK2 := hd0 ((((HK1.out.ext y1).ext y2).ext y3).ext y4)
  go_upto_region 4 with fail
  clear e0 e1 e2 e3 e4 e5 e6 e7 e8 e9 u0 u1 u2 u3 u4 u5 u6 u7 u8 HB1 HK1 t1
  generalize ext (ext (ext (ext W1 y1) y2) y3) y4 = W2 at *
  have e8 : W2.cell? ⟨w.heap.size, 8, none⟩ = some (.slice pa x.lp.length pc) := by rw [← HPV.out]; exact HK2.out.cell 8
  go_wp2_with fail
  go_loopw [3] (fun i wr => ∃ k : Nat, k ≤ x.lp.length ∧ i = .int .i64 k ∧ (∀ j (hj : j < x.lp.length), j < k → LapV x.l x.rs x.lp[j] ∧ ∀ i (h : i < j) (h' : i < x.lp.length), (x.lp[i]).1 ≠ (x.lp[j]).1 ∧ (x.lp[i]).2 ≠ (x.lp[j]).2) ∧ ∃ y, wr = ext W2 y) (fun i _ => x.lp.length - (intOf i).toNat)
  case atStart => exact ⟨0, by omega, rfl, fun j _ h => by omega, ext_of (Below.refl _ _)⟩
  case round =>
   obtain ⟨k, hk, rfl, hone, y, rfl⟩ := hrel
   have hl1000 := HLN.out
   have HONE := hd0 hone
   clear hone
   have e8' := cell_ext_some e8 y
   by_cases hlt : k < x.lp.length
   ·obtain ⟨b, off, epa, ck⟩ := P4.out k hlt
    obtain rfl := epa
    have i1 : (0 : Int) ≤ (k : Int) := by omega
    have i2 : (k : Int) < (x.lp.length : Int) := by omega
    obtain ⟨c, hc⟩ : ∃ c, x.lp[k] = c := ⟨_, rfl⟩
    rw [hc] at ck
    have HC := hd0 hc
    clear hc
    have hbw : Below w.heap.size w (ext W2 y) := grob HB2.out
    have k0 := cell_below' ck.1 hbw
    have k1 := cell_below' ck.2 hbw
    obtain ⟨cf, cs⟩ := c
    simp only at k0 k1
    have HJ1 := hd0 (show ∀ w, DtAt w x → Calls Tryz.prog 54 #[(.agg #[.string x.q.name, x.q.u, x.q.t, .int .i64 x.q.cover, .int .i64 x.q.agg, .int .i64 x.q.poker, x.lv, x.rv, x.pv, x.dv, .int .i64 x.ru.num, .int .i64 x.ru.den, .int .i64 x.ru.pn, .int .i64 x.ru.pd, .int .i64 x.ru.bn, .int .i64 x.ru.bd, .int .i64 x.ru.ln, .int .i64 x.ru.ld, .int .i64 x.ru.least]), .agg #[.int .i64 cf, .int .i64 cs]] w (RetP' w (LapV x.l x.rs (cf, cs))) from fun w h => HJT.out HM2.out (cf, cs) w h)
    have HCK := hd0 ck
    clear ck hbw
    have HGb := hd0 (show Below W2.heap.size W2 (ext W2 y) from gro)
    have HKb := hd0 (HK2.out.ext y)
    have HBb := hd0 (show Below w.heap.size w (ext W2 y) from grob HB2.out)
    generalize ext W2 y = Wb at *
    go_upto_region 6 with fail
    have hpart : PartG [6, 7] (fun L vs W => JnJ Wb (LapV x.l x.rs (cf, cs)) L vs W) := (JnJ.part)
    have HPART := hd0 hpart
    clear hpart
    refine wp_region_G [(.agg #[.string x.q.name, x.q.u, x.q.t, .int .i64 x.q.cover, .int .i64 x.q.agg, .int .i64 x.q.poker, x.lv, x.rv, x.pv, x.dv, .int .i64 x.ru.num, .int .i64 x.ru.den, .int .i64 x.ru.pn, .int .i64 x.ru.pd, .int .i64 x.ru.bn, .int .i64 x.ru.bd, .int .i64 x.ru.ln, .int .i64 x.ru.ld, .int .i64 x.ru.least]), .pointer (some ⟨w.heap.size, 8, none⟩), .slice (some ⟨b, off, none⟩) x.lp.length pc, .int .i64 (k : Int), .pointer (some ⟨b, off + k * 2, none⟩), .agg #[.int .i64 cf, .int .i64 cs], undef, undef] [6, 7] (fun L vs W => JnJ Wb (LapV x.l x.rs (cf, cs)) L vs W) (by kernel_rfl) (by kernel_rfl) ?_ ?_ ?_
    ·intro vs hlen
     exact JnJ.init
    ·intro L vs W i hlen hJ hi
     obtain ⟨x0, vs0, rfl, hlen0⟩ := len_cons hlen
     obtain ⟨x1, vs1, rfl, hlen1⟩ := len_cons hlen0
     obtain ⟨x2, vs2, rfl, hlen2⟩ := len_cons hlen1
     obtain ⟨x3, vs3, rfl, hlen3⟩ := len_cons hlen2
     obtain ⟨x4, vs4, rfl, hlen4⟩ := len_cons hlen3
     obtain ⟨x5, vs5, rfl, hlen5⟩ := len_cons hlen4
     obtain ⟨x6, vs6, rfl, hlen6⟩ := len_cons hlen5
     obtain ⟨x7, vs7, rfl, hlen7⟩ := len_cons hlen6
     obtain rfl := len_nil hlen7
     clear hlen hlen0 hlen1 hlen2 hlen3 hlen4 hlen5 hlen6 hlen7
     obtain ⟨hun, o, ho, hd⟩ := mem_ready.1 hi
     have hin : i < 8 := by have := (Array.getElem?_eq_some_iff.1 ho).1; simpa using this
     refine wpOp_free (B := fun a' W' => ∃ x0 x1 x2 x3 x4 x5 x6 x7, a' = putAll _ [x0, x1, x2, x3, x4, x5, x6, x7] _ ∧ InvG _ _ _ [x0, x1, x2, x3, x4, x5, x6, x7] (L.setIfInBounds i true) W') (fun _ _ h => by obtain ⟨x0, x1, x2, x3, x4, x5, x6, x7, h1, h2⟩ := h; exact ⟨[x0, x1, x2, x3, x4, x5, x6, x7], rfl, h1, h2⟩) ?_
     intro K HK
     simp only [putAll_cons, putAll_nil, put_some, put_none, List.setIfInBounds_toArray, List.set_cons_succ, List.set_cons_zero] at HK ⊢
     have z8 := cell_below' e8' hJ.part.below
     have z0 := cell_below' k0 hJ.part.below
     have z1 := cell_below' k1 hJ.part.below
     rcases (show i = 0 ∨ i = 1 ∨ i = 2 ∨ i = 3 ∨ i = 4 ∨ i = 5 ∨ i = 6 ∨ i = 7 by omega) with rfl | rfl | rfl | rfl | rfl | rfl | rfl | rfl
     ·obtain rfl := Option.some.inj ho
      refine wpOp_of_list (by rfl) ?_
      refine wpList_load_row rfl _ _ rfl _ rfl _ (dtC x) _ _ (HKb.out.below hJ.part.below) rfl rfl rfl ?_
      go_wp2
      exact HK.out _ _ ⟨_, _, _, _, _, _, _, _, rfl, hJ.up HPART.out 0 (by decide) (show 0 < 8 by decide) rfl⟩
     ·obtain rfl := Option.some.inj ho
      refine wpOp_of_list (by rfl) ?_
      go_wp2
      exact HK.out _ _ ⟨_, _, _, _, _, _, _, _, rfl, hJ.up HPART.out 1 (by decide) (show 1 < 8 by decide) rfl⟩
     ·obtain rfl := Option.some.inj ho
      have d1 : x1 = .pointer (some ⟨w.heap.size, 8, none⟩) := hJ.val 1 (show 1 < 8 by decide) (by decide) (getD_upJ (hd ⟨1, .data⟩ (by simp) (by rfl)))
      subst d1
      refine wpOp_of_list (by rfl) ?_
      go_wp2
      exact HK.out _ _ ⟨_, _, _, _, _, _, _, _, rfl, hJ.up HPART.out 2 (by decide) (show 2 < 8 by decide) rfl⟩
     ·obtain rfl := Option.some.inj ho
      refine wpOp_of_list (by rfl) ?_
      go_wp2
      exact HK.out _ _ ⟨_, _, _, _, _, _, _, _, rfl, hJ.up HPART.out 3 (by decide) (show 3 < 8 by decide) rfl⟩
     ·obtain rfl := Option.some.inj ho
      have d2 : x2 = .slice (some ⟨b, off, none⟩) x.lp.length pc := hJ.val 2 (show 2 < 8 by decide) (by decide) (getD_upJ (hd ⟨2, .data⟩ (by simp) (by rfl)))
      have d3 : x3 = .int .i64 (k : Int) := hJ.val 3 (show 3 < 8 by decide) (by decide) (getD_upJ (hd ⟨3, .data⟩ (by simp) (by rfl)))
      subst d2 d3
      refine wpOp_of_list (by rfl) ?_
      go_wp2
      exact HK.out _ _ ⟨_, _, _, _, _, _, _, _, rfl, hJ.up HPART.out 4 (by decide) (show 4 < 8 by decide) rfl⟩
     ·obtain rfl := Option.some.inj ho
      have d4 : x4 = .pointer (some ⟨b, off + k * 2, none⟩) := hJ.val 4 (show 4 < 8 by decide) (by decide) (getD_upJ (hd ⟨4, .data⟩ (by simp) (by rfl)))
      subst d4
      refine wpOp_of_list (by rfl) ?_
      go_wp2
      exact HK.out _ _ ⟨_, _, _, _, _, _, _, _, rfl, hJ.up HPART.out 5 (by decide) (show 5 < 8 by decide) rfl⟩
     ·obtain rfl := Option.some.inj ho
      have d0 : x0 = (.agg #[.string x.q.name, x.q.u, x.q.t, .int .i64 x.q.cover, .int .i64 x.q.agg, .int .i64 x.q.poker, x.lv, x.rv, x.pv, x.dv, .int .i64 x.ru.num, .int .i64 x.ru.den, .int .i64 x.ru.pn, .int .i64 x.ru.pd, .int .i64 x.ru.bn, .int .i64 x.ru.bd, .int .i64 x.ru.ln, .int .i64 x.ru.ld, .int .i64 x.ru.least]) := hJ.val 0 (show 0 < 8 by decide) (by decide) (getD_upJ (hd ⟨0, .data⟩ (by simp) (by rfl)))
      have d5 : x5 = .agg #[.int .i64 cf, .int .i64 cs] := hJ.val 5 (show 5 < 8 by decide) (by decide) (getD_upJ (hd ⟨5, .data⟩ (by simp) (by rfl)))
      subst d0 d5
      have hbw := hJ.part.below
      have HBW := hd0 (HBb.out.trans (Below.mono hbw HBb.out.size))
      clear hbw
      refine wpOp_of_list (by rfl) ?_
      go_wp2_with fail
      go_at_call 54; refine (HJ1.out _ (HX.out.below HBW.out)).mono ?_; rintro e W' ⟨q, rfl, hq, y5, rfl⟩
      have HQ5 := hd0 hq
      clear hq
      go_wp2
      exact HK.out _ _ ⟨_, _, _, _, _, _, _, _, rfl, (hJ.grow HPART.out y5).spec 6 (by decide) _ ((hJ.grow HPART.out y5).part.res rfl rfl HQ5.out)⟩
     ·obtain rfl := Option.some.inj ho
      obtain ⟨q, hx6, hq⟩ := hJ.part.r6 (getD_upJ (hd ⟨6, .data⟩ (by simp) (by rfl)))
      have hx7 : x6 = .bool q := hx6
      have HQ5 := hd0 hq
      clear hq hx6
      subst hx7
      refine wpOp_of_list (by rfl) ?_
      go_wp2
      exact HK.out _ _ ⟨_, _, _, _, _, _, _, _, rfl, hJ.spec 7 (by decide) _ (hJ.part.neg rfl rfl HQ5.out)⟩
    ·intro vs L W hlen hJ hall
     obtain ⟨x0, vs0, rfl, hlen0⟩ := len_cons hlen
     obtain ⟨x1, vs1, rfl, hlen1⟩ := len_cons hlen0
     obtain ⟨x2, vs2, rfl, hlen2⟩ := len_cons hlen1
     obtain ⟨x3, vs3, rfl, hlen3⟩ := len_cons hlen2
     obtain ⟨x4, vs4, rfl, hlen4⟩ := len_cons hlen3
     obtain ⟨x5, vs5, rfl, hlen5⟩ := len_cons hlen4
     obtain ⟨x6, vs6, rfl, hlen6⟩ := len_cons hlen5
     obtain ⟨x7, vs7, rfl, hlen7⟩ := len_cons hlen6
     obtain rfl := len_nil hlen7
     clear hlen hlen0 hlen1 hlen2 hlen3 hlen4 hlen5 hlen6 hlen7
     have d0 : x0 = (.agg #[.string x.q.name, x.q.u, x.q.t, .int .i64 x.q.cover, .int .i64 x.q.agg, .int .i64 x.q.poker, x.lv, x.rv, x.pv, x.dv, .int .i64 x.ru.num, .int .i64 x.ru.den, .int .i64 x.ru.pn, .int .i64 x.ru.pd, .int .i64 x.ru.bn, .int .i64 x.ru.bd, .int .i64 x.ru.ln, .int .i64 x.ru.ld, .int .i64 x.ru.least]) := hJ.val 0 (show 0 < 8 by decide) (by decide) (hall 0 (of_decide_eq_true (by kernel_rfl)))
     have d1 : x1 = .pointer (some ⟨w.heap.size, 8, none⟩) := hJ.val 1 (show 1 < 8 by decide) (by decide) (hall 1 (of_decide_eq_true (by kernel_rfl)))
     have d2 : x2 = .slice (some ⟨b, off, none⟩) x.lp.length pc := hJ.val 2 (show 2 < 8 by decide) (by decide) (hall 2 (of_decide_eq_true (by kernel_rfl)))
     have d3 : x3 = .int .i64 (k : Int) := hJ.val 3 (show 3 < 8 by decide) (by decide) (hall 3 (of_decide_eq_true (by kernel_rfl)))
     have d4 : x4 = .pointer (some ⟨b, off + k * 2, none⟩) := hJ.val 4 (show 4 < 8 by decide) (by decide) (hall 4 (of_decide_eq_true (by kernel_rfl)))
     have d5 : x5 = .agg #[.int .i64 cf, .int .i64 cs] := hJ.val 5 (show 5 < 8 by decide) (by decide) (hall 5 (of_decide_eq_true (by kernel_rfl)))
     subst d0 d1 d2 d3 d4 d5
     obtain ⟨q, hx7, hq⟩ := hJ.part.r7 (hall 7 (of_decide_eq_true (by kernel_rfl)))
     have hx8 : x7 = .bool (!q) := hx7
     have HQ := hd0 hq
     have HB9 := hd0 (HBb.out.trans (Below.mono hJ.part.below HBb.out.size))
     have HG9 := hd0 (HGb.out.trans (Below.mono hJ.part.below HGb.out.size))
     clear hx7 hq hJ hall
     subst hx8
     clear k0 k1 e8'
     simp only [putAll_cons, putAll_nil, put_some, put_none, List.setIfInBounds_toArray, List.set_cons_succ, List.set_cons_zero]
     cases q
     ·go_wp2
      go_ret
      exact ⟨false, rfl, fun h => (by cases h), ext_of HB9.out⟩
     have HLV := hd0 (HQ.out rfl)
     clear HQ
     go_wp2_with fail
     go_loopw [4] (fun i wr => ∃ m : Nat, m ≤ k ∧ i = .int .i64 m ∧ (∀ i (_ : i < m) (h' : i < x.lp.length), (x.lp[i]).1 ≠ cf ∧ (x.lp[i]).2 ≠ cs) ∧ ∃ z, wr = ext W2 z) (fun i _ => k - (intOf i).toNat)
     case atStart => exact ⟨0, by omega, rfl, fun i h => absurd h (Nat.not_lt_zero _), ext_of HG9.out⟩
     case round =>
      obtain ⟨m, hm, rfl, hno, z, rfl⟩ := hrel
      have HNO := hd0 hno
      clear hno
      by_cases hlm : m < k
      ·obtain ⟨b', off', epb, cm⟩ := P4.out m (by omega)
       cases epb
       have j1 : (0 : Int) ≤ (m : Int) := by omega
       have j2 : (m : Int) < (k : Int) := by omega
       have j3 : (m : Int) < (x.lp.length : Int) := by omega
       obtain ⟨d, hd⟩ : ∃ c, x.lp[m] = c := ⟨_, rfl⟩
       rw [hd] at cm
       have HD := hd0 hd
       clear hd
       have hbw : Below w.heap.size w (ext W2 z) := grob HB2.out
       have e8z := cell_ext_some e8 z
       have k0 := cell_below' HCK.out.1 hbw
       have k1 := cell_below' HCK.out.2 hbw
       have m0 := cell_below' cm.1 hbw
       have m1 := cell_below' cm.2 hbw
       obtain ⟨df, ds⟩ := d
       simp only at m0 m1 k0 k1
       clear hbw cm
       cases t1 : (df == cf)
       ·cases t2 : (ds == cs)
        ·have HN2 := hd0 (show ∀ i (_ : i < m + 1) (h' : i < x.lp.length), (x.lp[i]).1 ≠ cf ∧ (x.lp[i]).2 ≠ cs from by
          intro i h h'
          rcases Nat.lt_or_ge i m with h2 | h2
          ·exact HNO.out i h2 h'
          ·obtain rfl : i = m := by omega
           rw [HD.out]
           exact ⟨by simpa using t1, by simpa using t2⟩)
         go_upto_region 11 with fail
         refine wp_region_grows (by kernel_rfl) (by kernel_rfl) ?_
         repeat (go_big_quiet_step (fail))
         refine wpQuiet_nil ?_; rintro _ ⟨xq, rfl⟩
         go_wp2
         go_roundw
         case rel => exact ⟨m + 1, by omega, by go_num, HN2.out, ext_of gro⟩
         case measure => simp [intOf] <;> omega
        ·go_upto_region 11 with fail
         refine wp_region_grows (by kernel_rfl) (by kernel_rfl) ?_
         repeat (go_big_quiet_step (fail))
         refine wpQuiet_nil ?_; rintro _ ⟨xq, rfl⟩
         go_wp2
         go_ret
         exact ⟨false, rfl, fun h => (by cases h), ext_of (grob HB2.out)⟩
       ·go_upto_region 11 with fail
        refine wp_region_grows (by kernel_rfl) (by kernel_rfl) ?_
        repeat (go_big_quiet_step (fail))
        refine wpQuiet_nil ?_; rintro _ ⟨xq, rfl⟩
        go_wp2
        go_ret
        exact ⟨false, rfl, fun h => (by cases h), ext_of (grob HB2.out)⟩
      ·obtain rfl : m = k := by omega
       have HN2 := hd0 (show ∀ j (hj : j < x.lp.length), j < m + 1 → LapV x.l x.rs x.lp[j] ∧ ∀ i (h : i < j) (h' : i < x.lp.length), (x.lp[i]).1 ≠ (x.lp[j]).1 ∧ (x.lp[i]).2 ≠ (x.lp[j]).2 from by
        intro j hj h
        rcases Nat.lt_or_ge j m with h2 | h2
        ·exact HONE.out j hj h2
        ·obtain rfl : j = m := by omega
         rw [HC.out]
         exact ⟨HLV.out, fun i hi hil => HNO.out i hi hil⟩)
       clear hm hlm
       go_wp2
       go_roundw
       case rel => exact ⟨m + 1, by omega, by go_num, HN2.out, ext_of gro⟩
       case measure => simp [intOf] <;> omega
   ·obtain rfl : k = x.lp.length := by omega
    have HV := hd0 (show DtV x from by
     have hfs : ∀ i j (hi : i < x.lp.length) (hj : j < x.lp.length), i < j → (x.lp[i]).1 ≠ (x.lp[j]).1 ∧ (x.lp[i]).2 ≠ (x.lp[j]).2 := fun i j hi hj hij => (HONE.out j hj hj).2 i hij hi
     refine ⟨HM1.out, HM2.out, fun f hf => ?_, HDM.out.1, HDM.out.2.2, HRU.out, HLN.out, fun j hj => ?_, ?_, ?_⟩
     ·obtain ⟨j, hj, rfl⟩ := List.getElem_of_mem hf
      exact HDM.out.2.1 j hj
     ·obtain ⟨i, hi, rfl⟩ := List.getElem_of_mem hj
      exact (HONE.out i hi hi).1
     ·rw [List.Nodup, List.pairwise_iff_getElem]
      intro i j hi hj hij
      simp only [List.length_map] at hi hj
      simp only [List.getElem_map]
      exact (hfs i j hi hj hij).1
     ·rw [List.Nodup, List.pairwise_iff_getElem]
      intro i j hi hj hij
      simp only [List.length_map] at hi hj
      simp only [List.getElem_map]
      exact (hfs i j hi hj hij).2)
    go_wp2
    go_ret
    exact ⟨true, rfl, fun _ => HV.out, ext_of (grob HB2.out)⟩
 ·go_wp2
  go_ret
  exact ⟨false, rfl, fun h => (by cases h), ext_of (grob HB1.out)⟩

theorem reinRight_c (x : Dt) (w : World) (h : DtAt w x) : Calls Tryz.prog 5 #[(.agg #[.string x.q.name, x.q.u, x.q.t, .int .i64 x.q.cover, .int .i64 x.q.agg, .int .i64 x.q.poker, x.lv, x.rv, x.pv, x.dv, .int .i64 x.ru.num, .int .i64 x.ru.den, .int .i64 x.ru.pn, .int .i64 x.ru.pd, .int .i64 x.ru.bn, .int .i64 x.ru.bd, .int .i64 x.ru.ln, .int .i64 x.ru.ld, .int .i64 x.ru.least])] w (RetP' w (DtV x ∧ countS x.rs ≤ 16)) := by
 have HX := hd0 h
 clear h
 go_enter Tryz.func5, Tryz.ntmps5
 go_upto_region 1 with fail
 refine world_mask (fun W => Below w.heap.size w W ∧ Blk W w.heap.size (dtC x) 34) _ ⟨gro, Blk.new _ _ _⟩ ?_
 rintro W1 ⟨hb1, K1⟩
 have HB1 := hd0 hb1
 have HK1 := hd0 K1
 clear hb1 K1
 go_wp2_with (refine wpList_load_row rfl _ _ rfl _ rfl _ (dtC x) _ _ HK1.out rfl rfl rfl ?_)
 go_at_call 19; refine (refSmall25_c x _ (HX.out.below HB1.out)).mono ?_; rintro e W ⟨q, rfl, hq, y1, rfl⟩
 have HQ := hd0 hq
 clear hq
 cases q
 ·go_wp2
  go_ret
  exact ⟨false, rfl, fun h => (by cases h), ext_of (grob HB1.out)⟩
 have HK2 := hd0 (HK1.out.ext y1)
 go_wp2_with (refine wpList_load_rowG (by rfl) _ _ rfl _ rfl _ (dtC x) _ _ HK2.out rfl rfl rfl ?_)
 go_at_call 20; refine (refValid25_c x _ (HX.out.below (grob HB1.out))).mono ?_; rintro e W ⟨q2, rfl, hq2, y2, rfl⟩
 have HQ2 := hd0 hq2
 clear hq2
 go_wp2
 go_ret
 exact ⟨q2, rfl, fun h => ⟨HQ2.out h, HQ.out (by trivial) (fun r hr => (by have := run_facts ((laidB_iff.1 (HQ2.out h).laid).2.2.1 r hr); exact ⟨this.2.2.1, this.2.2.2.1⟩)) (laid_len (HQ2.out h).laid)⟩, ext_of (grob HB1.out)⟩
end Go.Proofs.YtkjljneehgmmaaaGreat

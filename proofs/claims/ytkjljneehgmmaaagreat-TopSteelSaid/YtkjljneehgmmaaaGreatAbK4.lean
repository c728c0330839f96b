/- TsM, TsN, TsO, TsR, TsF in one text. -/
import Derived.Test.YtkjljneehgmmaaaGreatAbK2
import Derived.Test.YtkjljneehgmmaaaGreatAbK3
namespace Go.Proofs.YtkjljneehgmmaaaGreat
set_option linter.unusedVariables false
set_option linter.unusedSimpArgs false
open Go Go.RowKit
set_option maxRecDepth 20000

theorem int_wf {d : Int} (h : -9223372036854775808 ≤ d ∧ d ≤ 9223372036854775807) : (Lit.int .i64 d).wf = true := by
 have e1 : IntKind.i64.min = -9223372036854775808 := by decide
 have e2 : IntKind.i64.max = 9223372036854775807 := by decide
 simp only [Lit.wf, Bool.and_eq_true, decide_eq_true_eq, e1, e2]
 exact h
def hasF (l : List (Int × Int)) (f : Int × Int → Int) (i : Int) : Option Bool := if (l.any fun j => decide (f j = i)) = true then some true else none
theorem hasF_nil (f : Int × Int → Int) : hasF [] f = fun _ => none := by funext i; simp [hasF]
theorem hasF_snoc (l : List (Int × Int)) (j : Int × Int) (f : Int × Int → Int) (n : Int) (hn : f j = n) : hasF (l ++ [j]) f = fun i => if i = n then some true else hasF l f i := by
 funext i
 unfold hasF
 rw [List.any_append]
 by_cases h : i = n
 ·subst h; simp [hn]
 ·have hne : ¬ f j = i := by rw [hn]; exact fun e => h e.symm
  rw [show List.any [j] (fun j => decide (f j = i)) = false by simp [hne], Bool.or_false]
  simp [h]
theorem own_ne_map {W : World} {base s n b m : Nat} {e e2 : TypeId} {v : Value} {xs : List Value} {α : Type} {lit : α → Lit} {F : Int → Option α} (h : W.ownsRow base e s v n xs) (hm : ImM e2 lit W b m F) : v.ownBlock ≠ some b := by
 obtain ⟨D, ⟨es, clock, h1, -⟩, -⟩ := hm
 rcases h.2 with ⟨rfl, -⟩ | ⟨g', cap, cur, rfl, -, g1, -⟩
 ·simp [Value.ownBlock]
 ·intro q
  simp only [Value.ownBlock, Option.some.injEq] at q
  subst q
  rw [h1] at g1
  cases g1
structure LkJ (w : World) (M : List Mn) (vm : Value) (lp : List (Int × Int)) (m1 m2 k : Nat) (W : World) : Prop where
 below : Below w.heap.size w W
 row : W.ownsRow w.heap.size 228 9 vm M.length (mnCells M)
 f : ImM 4 Lit.bool W m1 k (hasF (lp.take k) (·.1))
 s : ImM 4 Lit.bool W m2 k (hasF (lp.take k) (·.2))
 g1 : w.heap.size ≤ m1
 g2 : w.heap.size ≤ m2
theorem LkJ.grows {w : World} {M : List Mn} {vm : Value} {lp : List (Int × Int)} {m1 m2 k : Nat} {W W' : World} (h : LkJ w M vm lp m1 m2 k W) (hb : Below W.heap.size W W') : LkJ w M vm lp m1 m2 k W' := ⟨h.below.trans (Below.mono hb h.below.size), own_grows h.row hb, h.f.below hb, h.s.below hb, h.g1, h.g2⟩
theorem LkJ.next {w : World} {M : List Mn} {vm : Value} {lp : List (Int × Int)} {m1 m2 k : Nat} {W W' : World} (h : LkJ w M vm lp m1 m2 k W) {F1 F2 : Int → Option Bool} (e1 : hasF (lp.take (k + 1)) (·.1) = F1) (e2 : hasF (lp.take (k + 1)) (·.2) = F2)
  (hs : W.heap.size ≤ W'.heap.size) (ho : W'.os = W.os) (ht : W'.tape = W.tape) (hu : W'.output = W.output) (hf : ∀ k, k < W.heap.size → k ≠ m1 → k ≠ m2 → W'.heap[k]? = W.heap[k]?) (h1 : ImM 4 Lit.bool W' m1 (k + 1) F1) (h2 : ImM 4 Lit.bool W' m2 (k + 1) F2) : LkJ w M vm lp m1 m2 (k + 1) W' := by
 subst e1 e2
 have n1 := own_ne_map h.row h.f
 have n2 := own_ne_map h.row h.s
 refine ⟨⟨ho.trans h.below.os, ht.trans h.below.tape, hu.trans h.below.output, Nat.le_trans h.below.size hs, fun k hk => ?_⟩, own_heap h.row fun b hb => hf b (h.row.lt b hb).2 (fun e => n1 (by rw [hb, e])) (fun e => n2 (by rw [hb, e])), h1, h2, h.g1, h.g2⟩
 rw [hf k (Nat.lt_of_lt_of_le hk h.below.size) (by have := h.g1; omega) (by have := h.g2; omega)]
 exact h.below.block k hk
def mnsI (x : Dt) : List Mn := mainsTo x.l x.rs (countS x.rs).toNat
def RetLook (w : World) (L : List Mn) (e : Ending) (W : World) : Prop := ∃ v, e = .returned (.tuple #[v, .bool true]) ∧ W.ownsRow w.heap.size 228 9 v L.length (mnCells L) ∧ ∃ y, W = ext w y
theorem hasF_fresh {l : List (Int × Int)} {f : Int × Int → Int} (h : (l.map f).Nodup) {k : Nat} (hk : k < l.length) {n : Int} (hn : f l[k] = n) : hasF (l.take k) f n = none := by
 unfold hasF
 rw [if_neg]
 intro e
 obtain ⟨j, hj, e⟩ := List.any_eq_true.1 e
 obtain ⟨i, hi, rfl⟩ := List.getElem_of_mem hj
 have hi' : i < k := by rw [List.length_take] at hi; omega
 rw [List.getElem_take] at e
 have e2 : f l[i] = f l[k] := by rw [hn]; simpa using e
 have h3 := (List.nodup_iff_pairwise_ne.1 h) |> List.pairwise_iff_getElem.1
 exact h3 i k (by simp; omega) (by simpa using hk) hi' (by simpa using e2)
theorem hasF_step {l : List (Int × Int)} {f : Int × Int → Int} {k : Nat} (hk : k < l.length) {n : Int} (hn : f l[k] = n) : hasF (l.take (k + 1)) f = fun i => if i = n then some true else hasF (l.take k) f i := by
 rw [← List.take_append_getElem hk]
 exact hasF_snoc _ _ _ _ hn
set_option maxRecDepth 100000 in
set_option maxHeartbeats 16000000 in
theorem look_c (x : Dt) (hv : DtV x) (w : World) (h : DtAt w x) : Calls Tryz.prog 63 #[(.agg #[.string x.q.name, x.q.u, x.q.t, .int .i64 x.q.cover, .int .i64 x.q.agg, .int .i64 x.q.poker, x.lv, x.rv, x.pv, x.dv, .int .i64 x.ru.num, .int .i64 x.ru.den, .int .i64 x.ru.pn, .int .i64 x.ru.pd, .int .i64 x.ru.bn, .int .i64 x.ru.bd, .int .i64 x.ru.ln, .int .i64 x.ru.ld, .int .i64 x.ru.least])] w (RetLook w (mnsI x)) := by
 have mq := h.q
 have mp := h.lp
 obtain ⟨pa, pc, epv, p1, p2, p4⟩ := mp.shape
 have HMV := hd0 (fun w hl hm => solidMember_v x.q.name x.q.l x.q.m x.q.u x.q.t x.q.cover x.q.agg x.q.poker true hv.q mq.name w hl hm)
 have HLV := hd0 (fun w hl hr => laidValid_v x.l x.rs x.lv x.rv true hv.laid w hl hr)
 have HDV := hd0 (fun w hd => demValid_ok x.dm x.dv hv.dlen hv.dm hv.dname w hd)
 have HRV := hd0 (fun w => ruValid_ok x.ru hv.ru w)
 have HMN := hd0 (mains_c x hv.laid)
 have HX := hd0 h
 have HEPV := hd0 epv
 have HP4 := hd0 p4
 have HV := hd0 hv
 have hlp := hv.laps.len
 have d1 : decide ((1000 : Int) < (x.lp.length : Int)) = false := by simp; omega
 have hmm := @run_makeMap Tryz.prog
 have HCT := hd0 (count_le hv.laid 0).2.2
 unfold mnsI
 have hML : (mainsTo x.l x.rs (countS x.rs).toNat).length = (countS x.rs).toNat := mainsTo_length _ _ _
 have HML := hd0 hML
 have HMG := hd0 (fun (n : Nat) (hn : n < (countS x.rs).toNat) => show (mainsTo x.l x.rs (countS x.rs).toNat)[n]'(by rw [HML.out]; exact hn) = mnI x.l x.rs n by simp [mainsTo])
 clear hML
 generalize mainsTo x.l x.rs (countS x.rs).toNat = M at *
 have HMLC := hd0 (show (countS x.rs).toNat = M.length from HML.out.symm)
 clear hv mq mp epv p4 h
 go_enter Tryz.func63, Tryz.ntmps63
 go_upto_region 1 with fail
 refine world_mask (fun W => Below w.heap.size w W ∧ Blk W w.heap.size (dtC x) 34) _ ⟨gro, Blk.new _ _ _⟩ ?_
 rintro W1 ⟨hb1, K1⟩
 have HB1 := hd0 hb1
 have c8 : W1.cell? ⟨w.heap.size, 8, none⟩ = some (.slice pa x.lp.length pc) := (K1.cell 8).trans (congrArg some HEPV.out)
 have c0 : W1.cell? ⟨w.heap.size, 0, none⟩ = some (.string x.q.name) := K1.cell 0
 have c1 : W1.cell? ⟨w.heap.size, 1, none⟩ = some (x.q.u) := K1.cell 1
 have c2 : W1.cell? ⟨w.heap.size, 2, none⟩ = some (x.q.t) := K1.cell 2
 have c3 : W1.cell? ⟨w.heap.size, 3, none⟩ = some (.int .i64 x.q.cover) := K1.cell 3
 have c4 : W1.cell? ⟨w.heap.size, 4, none⟩ = some (.int .i64 x.q.agg) := K1.cell 4
 have c5 : W1.cell? ⟨w.heap.size, 5, none⟩ = some (.int .i64 x.q.poker) := K1.cell 5
 have c6 : W1.cell? ⟨w.heap.size, 6, none⟩ = some (x.lv) := K1.cell 6
 have c7 : W1.cell? ⟨w.heap.size, 7, none⟩ = some (x.rv) := K1.cell 7
 have c9 : W1.cell? ⟨w.heap.size, 9, none⟩ = some (x.dv) := K1.cell 9
 have c10 : W1.cell? ⟨w.heap.size, 10, none⟩ = some (.int .i64 x.ru.num) := K1.cell 10
 have c11 : W1.cell? ⟨w.heap.size, 11, none⟩ = some (.int .i64 x.ru.den) := K1.cell 11
 have c12 : W1.cell? ⟨w.heap.size, 12, none⟩ = some (.int .i64 x.ru.pn) := K1.cell 12
 have c13 : W1.cell? ⟨w.heap.size, 13, none⟩ = some (.int .i64 x.ru.pd) := K1.cell 13
 have c14 : W1.cell? ⟨w.heap.size, 14, none⟩ = some (.int .i64 x.ru.bn) := K1.cell 14
 have c15 : W1.cell? ⟨w.heap.size, 15, none⟩ = some (.int .i64 x.ru.bd) := K1.cell 15
 have c16 : W1.cell? ⟨w.heap.size, 16, none⟩ = some (.int .i64 x.ru.ln) := K1.cell 16
 have c17 : W1.cell? ⟨w.heap.size, 17, none⟩ = some (.int .i64 x.ru.ld) := K1.cell 17
 have c18 : W1.cell? ⟨w.heap.size, 18, none⟩ = some (.int .i64 x.ru.least) := K1.cell 18
 clear hb1
 go_upto_region 3 with (first | (go_at_call 123; refine (HMV.out _ (HX.out.q.boxes.below (grob HB1.out)) (HX.out.q.holes.below (grob HB1.out))).mono ?_; rintro e w' ⟨rfl, x1, rfl⟩) | (go_at_call 84; refine (HLV.out _ (HX.out.l.below (grob HB1.out)) (HX.out.rs.below (grob HB1.out))).mono ?_; rintro e w' ⟨rfl, x2, rfl⟩) | (go_at_call 124; refine (HDV.out _ (HX.out.dm.below (grob HB1.out))).mono ?_; rintro e w' ⟨rfl, x3, rfl⟩) | (go_at_call 125; refine (HRV.out _).mono ?_; rintro e w' ⟨rfl, x4, rfl⟩))
 refine world_mask (fun W => Below w.heap.size w W ∧ Blk W w.heap.size (dtC x) 34) _ ⟨grob HB1.out, K1.below gro⟩ ?_
 clear c0 c1 c2 c3 c4 c5 c6 c7 c8 c9 c10 c11 c12 c13 c14 c15 c16 c17 c18 K1 HB1
 rintro W2 ⟨hb2, K2⟩
 have HB2 := hd0 hb2
 have HK2 := hd0 K2
 clear hb2 K2
 go_upto_region 4 with (first | (refine wpList_load_row rfl _ _ rfl _ rfl _ (dtC x) _ _ HK2.out rfl rfl rfl ?_) | (go_at_call 126; refine (HMN.out _ (HX.out.below (grob HB2.out))).mono ?_; rintro e w' ⟨vm, rfl, hown, x5, rfl⟩; obtain ⟨am, cm, rfl, -, -, -⟩ := own_shape hown; have HO5 := hd0 (own_mono (base' := w.heap.size) hown HB2.out.size); clear hown))
 go_upto_region 5 with fail
 have hm12 : W2.heap.size + x5.heap.size ≠ W2.heap.size + x5.heap.size + 1 := by omega
 refine world_mask (fun W => LkJ w M (.slice am (countS x.rs).toNat cm) x.lp (W2.heap.size + x5.heap.size) (W2.heap.size + x5.heap.size + 1) 0 W ∧ Blk W w.heap.size (dtC x) 34) _ ⟨⟨grob HB2.out, by rw [HML.out]; exact own_grows HO5.out gro, ?_, ?_, by have := HB2.out.size; omega, by have := HB2.out.size; omega⟩, HK2.out.below gro⟩ ?_
 ·rw [List.take_zero, hasF_nil]
  exact (show ImM 4 Lit.bool _ (W2.heap.size + x5.heap.size) 0 _ from by have h := ImM.made (ext W2 x5) 4 Lit.bool; rw [size_ext] at h; exact h).below gro
 ·rw [List.take_zero, hasF_nil]
  exact (show ImM 4 Lit.bool _ (W2.heap.size + x5.heap.size + 1) 0 _ from by have h := ImM.made ((ext W2 x5).alloc (.map #[] 0)) 4 Lit.bool; rw [World.size_alloc, size_ext] at h; exact h)
 have HM12 := hd0 hm12
 clear hm12 hmm HO5
 generalize W2.heap.size + x5.heap.size + 1 = m2 at *
 generalize W2.heap.size + x5.heap.size = m1 at *
 rintro W4 ⟨J, K4⟩
 have c8 : W4.cell? ⟨w.heap.size, 8, none⟩ = some (.slice pa x.lp.length pc) := (K4.cell 8).trans (congrArg some HEPV.out)
 go_wp2_with fail
 go_loopw [46] (fun i wr => ∃ k : Nat, k ≤ x.lp.length ∧ i = .int .i64 k ∧ LkJ w M (.slice am (countS x.rs).toNat cm) x.lp m1 m2 k wr) (fun i _ => x.lp.length - (intOf i).toNat)
 case atStart => exact ⟨0, Nat.zero_le _, rfl, J⟩
 case round =>
  clear J c8 K4
  obtain ⟨W5, rfl⟩ : ∃ W : World, W = wr := ⟨_, rfl⟩
  obtain ⟨k, hk, rfl, J⟩ := hrel
  have HJ := hd0 J
  clear J
  by_cases hlt : k < x.lp.length
  ·have q1 : (0 : Int) ≤ (k : Int) := by omega
   have q2 : (k : Int) < (x.lp.length : Int) := by omega
   obtain ⟨⟨r1a, r1b⟩, ⟨r2a, r2b⟩, ga, gb, ea, eb, l1, l2, l3⟩ := HV.out.laps.one _ (List.getElem_mem hlt)
   obtain ⟨fi, si, hjk⟩ : ∃ fi si : Nat, x.lp[k] = ((fi : Int), (si : Int)) := ⟨_, _, Prod.ext (Int.toNat_of_nonneg r1a).symm (Int.toNat_of_nonneg r2a).symm⟩
   obtain ⟨bp, op, epa, hp⟩ := HP4.out k hlt
   have s1 := hasF_step (f := fun j => j.1) hlt (n := (fi : Int)) (by rw [hjk])
   have s2 := hasF_step (f := fun j => j.2) hlt (n := (si : Int)) (by rw [hjk])
   have u1 := hasF_fresh (f := fun j => j.1) HV.out.laps.first hlt (n := (fi : Int)) (by rw [hjk])
   have u2 := hasF_fresh (f := fun j => j.2) HV.out.laps.second hlt (n := (si : Int)) (by rw [hjk])
   have HTK := hd0 (And.intro s1 s2)
   have HFR := hd0 (And.intro u1 u2)
   rw [hjk] at hp r1a r1b r2a r2b ea eb
   simp only at r1a r1b r2a r2b ea eb
   have hcb := HCT.out
   have HWFfi := hd0 (int_wf (d := (fi : Int)) (by omega))
   have HWFsi := hd0 (int_wf (d := (si : Int)) (by omega))
   have nfi : fi < (countS x.rs).toNat := by omega
   have nsi : si < (countS x.rs).toNat := by omega
   have gfi := HMG.out fi nfi
   have gsi := HMG.out si nsi
   have HJO := hd0 (joint_ok M (.slice am M.length cm) fi si ga gb (by rw [HML.out]; exact nfi) (by rw [HML.out]; exact nsi) (by rw [gfi]; unfold mnI mnOf; rw [ea]; exact ⟨rfl, rfl⟩) (by rw [gsi]; unfold mnI mnOf; rw [eb]; exact ⟨rfl, rfl⟩) l1 l2 l3)
   rw [HML.out] at HJO
   clear s1 s2 u1 u2 ea eb l1 l2 l3 gfi gsi r1a r1b r2a r2b hcb
   subst epa
   obtain ⟨p0, p1'⟩ := (show PrAt W5 bp (op + k * 2) ((fi : Int), (si : Int)) from by obtain ⟨y, hy⟩ := ext_of HJ.out.below; rw [hy]; exact hp.ext y)
   simp only at p0 p1'
   clear hp hjk
   go_upto_region 8 with fail
   refine world_mask (fun W => LkJ w M (.slice am (countS x.rs).toNat cm) x.lp m1 m2 k W ∧ Blk W W5.heap.size #[.int .i64 (fi : Int), .int .i64 (si : Int)] 128) _ ⟨HJ.out.grows gro, Blk.new _ _ _⟩ ?_
   clear p0 p1'
   have hn81 : W5.heap.size ≠ m1 := by have := HJ.out.f.lt; omega
   have hn82 : W5.heap.size ≠ m2 := by have := HJ.out.s.lt; omega
   have HN8 := hd0 (And.intro hn81 hn82)
   clear hn81 hn82 HJ
   generalize W5.heap.size = g8 at *
   rintro W6 ⟨J6, K8⟩
   have HJ6 := hd0 J6
   have HK8 := hd0 K8
   have e0 : W6.cell? ⟨g8, 0, none⟩ = some (.int .i64 (fi : Int)) := K8.cell 0
   have e1 : W6.cell? ⟨g8, 1, none⟩ = some (.int .i64 (si : Int)) := K8.cell 1
   clear J6 K8
   go_upto_region 10 with (go_at_call 127; refine (HJO.out _ (Mns.of_own HJ6.out.row rfl)).mono ?_; rintro e w' ⟨rfl, x6, rfl⟩; have hl1 : (Instr.lookup 205 (.map (some m1)) (.int .i64 (fi : Int)) false).run Tryz.prog (ext W6 x6) = .ok (.bool false) (ext W6 x6) := (by have h := ImM.look (HJ6.out.f.below (below_ext W6 x6)) (fi : Int) HWFfi.out; rw [HFR.out.1] at h; exact h); have hl2 : (Instr.lookup 205 (.map (some m2)) (.int .i64 (si : Int)) false).run Tryz.prog (ext W6 x6) = .ok (.bool false) (ext W6 x6) := (by have h := ImM.look (HJ6.out.s.below (below_ext W6 x6)) (si : Int) HWFsi.out; rw [HFR.out.2] at h; exact h))
   refine world_mask (fun W => LkJ w M (.slice am (countS x.rs).toNat cm) x.lp m1 m2 k W ∧ Blk W g8 #[.int .i64 (fi : Int), .int .i64 (si : Int)] 128) _ ⟨HJ6.out.grows gro, HK8.out.below gro⟩ ?_
   clear e0 e1 HJ6 HK8 HJO HFR
   try clear hl1 hl2
   rintro W3 ⟨J3, K3⟩
   have HLJ3 := hd0 J3
   have H8 := hd0 K3
   have HTM : Hid (TmOk 6 7 W3 m1 m2 (fun W => ImM 4 Lit.bool W m1 k (hasF (x.lp.take k) (·.1))) (fun W => ImM 4 Lit.bool W m1 (k + 1) (fun i => if i = (fi : Int) then some true else hasF (x.lp.take k) (·.1) i)) (fun W => ImM 4 Lit.bool W m2 k (hasF (x.lp.take k) (·.2))) (fun W => ImM 4 Lit.bool W m2 (k + 1) (fun i => if i = (si : Int) then some true else hasF (x.lp.take k) (·.2) i))) := hd0 ⟨HM12.out, J3.f.lt, J3.s.lt, by decide, fun _ _ hb h => ImM.same h hb, fun _ _ hb h => ImM.same h hb, fun _ _ hb h => ImM.same h hb, fun _ _ hb h => ImM.same h hb⟩
   clear J3 K3
   have hpart : PartG [6, 7] (TmJ 6 7 W3 m1 m2 (fun W => ImM 4 Lit.bool W m1 k (hasF (x.lp.take k) (·.1))) (fun W => ImM 4 Lit.bool W m1 (k + 1) (fun i => if i = (fi : Int) then some true else hasF (x.lp.take k) (·.1) i)) (fun W => ImM 4 Lit.bool W m2 k (hasF (x.lp.take k) (·.2))) (fun W => ImM 4 Lit.bool W m2 (k + 1) (fun i => if i = (si : Int) then some true else hasF (x.lp.take k) (·.2) i))) := (TmJ.part HTM.out)
   have HPART := hd0 hpart
   clear hpart
   refine wp_region_G [.map (some m1), .pointer (some ⟨g8, 0, none⟩), .int .i64 (fi : Int), .map (some m2), .pointer (some ⟨g8, 1, none⟩), .int .i64 (si : Int), undef, undef] [6, 7] (TmJ 6 7 W3 m1 m2 (fun W => ImM 4 Lit.bool W m1 k (hasF (x.lp.take k) (·.1))) (fun W => ImM 4 Lit.bool W m1 (k + 1) (fun i => if i = (fi : Int) then some true else hasF (x.lp.take k) (·.1) i)) (fun W => ImM 4 Lit.bool W m2 k (hasF (x.lp.take k) (·.2))) (fun W => ImM 4 Lit.bool W m2 (k + 1) (fun i => if i = (si : Int) then some true else hasF (x.lp.take k) (·.2) i))) (by kernel_rfl) (by kernel_rfl) ?_ ?_ ?_
   ·intro vs hlen
    exact TmJ.init (repL (show 6 < 8 by decide)) (repL (show 7 < 8 by decide)) (ImM.same HLJ3.out.f rfl) (ImM.same HLJ3.out.s rfl)
   ·intro L vs W i hlen hJ hi
    obtain ⟨x0, vs0, rfl, hlen0⟩ := len_cons hlen
    obtain ⟨x1, vs1, rfl, hlen1⟩ := len_cons hlen0
    obtain ⟨x2, vs2, rfl, hlen2⟩ := len_cons hlen1
    obtain ⟨x3, vs3, rfl, hlen3⟩ := len_cons hlen2
    obtain ⟨x4, vs4, rfl, hlen4⟩ := len_cons hlen3
    obtain ⟨x5, vs5, rfl, hlen5⟩ := len_cons hlen4
    obtain ⟨x6, vs6, rfl, hlen6⟩ := len_cons hlen5
    obtain ⟨x7, vs7, rfl, hlen7⟩ := len_cons hlen6
    obtain rfl := len_nil hlen7
    clear hlen hlen0 hlen1 hlen2 hlen3 hlen4 hlen5 hlen6 hlen7
    obtain ⟨hun, o, ho, hd⟩ := mem_ready.1 hi
    have hin : i < 8 := by have := (Array.getElem?_eq_some_iff.1 ho).1; simpa using this
    refine wpOp_free (B := fun a' W' => ∃ x0 x1 x2 x3 x4 x5 x6 x7, a' = putAll _ [x0, x1, x2, x3, x4, x5, x6, x7] _ ∧ InvG _ _ _ [x0, x1, x2, x3, x4, x5, x6, x7] (L.setIfInBounds i true) W') (fun _ _ h => by obtain ⟨x0, x1, x2, x3, x4, x5, x6, x7, h1, h2⟩ := h; exact ⟨[x0, x1, x2, x3, x4, x5, x6, x7], rfl, h1, h2⟩) ?_
    intro K HK
    simp only [putAll_cons, putAll_nil, put_some, put_none, List.setIfInBounds_toArray, List.set_cons_succ, List.set_cons_zero] at HK ⊢
    have hb8 := H8.out.of_block (hJ.part.frame g8 H8.out.lt HN8.out.1 HN8.out.2)
    have k0 : W.cell? ⟨g8, 0, none⟩ = some (.int .i64 (fi : Int)) := hb8.cell 0
    have k1 : W.cell? ⟨g8, 1, none⟩ = some (.int .i64 (si : Int)) := hb8.cell 1
    clear hb8
    rcases (show i = 0 ∨ i = 1 ∨ i = 2 ∨ i = 3 ∨ i = 4 ∨ i = 5 ∨ i = 6 ∨ i = 7 by omega) with rfl | rfl | rfl | rfl | rfl | rfl | rfl | rfl
    ·obtain rfl := Option.some.inj ho
     refine wpOp_of_list (by rfl) ?_
     go_wp2
     exact HK.out _ _ ⟨_, _, _, _, _, _, _, _, rfl, hJ.up HPART.out 0 (by decide) (show 0 < 8 by decide) rfl⟩
    ·obtain rfl := Option.some.inj ho
     refine wpOp_of_list (by rfl) ?_
     go_wp2
     exact HK.out _ _ ⟨_, _, _, _, _, _, _, _, rfl, hJ.up HPART.out 1 (by decide) (show 1 < 8 by decide) rfl⟩
    ·obtain rfl := Option.some.inj ho
     have d1 : x1 = .pointer (some ⟨g8, 0, none⟩) := hJ.val 1 (show 1 < 8 by decide) (by decide) (getD_upJ (hd ⟨1, .data⟩ (by simp) (by rfl)))
     subst d1
     refine wpOp_of_list (by rfl) ?_
     go_wp2
     exact HK.out _ _ ⟨_, _, _, _, _, _, _, _, rfl, hJ.up HPART.out 2 (by decide) (show 2 < 8 by decide) rfl⟩
    ·obtain rfl := Option.some.inj ho
     refine wpOp_of_list (by rfl) ?_
     go_wp2
     exact HK.out _ _ ⟨_, _, _, _, _, _, _, _, rfl, hJ.up HPART.out 3 (by decide) (show 3 < 8 by decide) rfl⟩
    ·obtain rfl := Option.some.inj ho
     refine wpOp_of_list (by rfl) ?_
     go_wp2
     exact HK.out _ _ ⟨_, _, _, _, _, _, _, _, rfl, hJ.up HPART.out 4 (by decide) (show 4 < 8 by decide) rfl⟩
    ·obtain rfl := Option.some.inj ho
     have d4 : x4 = .pointer (some ⟨g8, 1, none⟩) := hJ.val 4 (show 4 < 8 by decide) (by decide) (getD_upJ (hd ⟨4, .data⟩ (by simp) (by rfl)))
     subst d4
     refine wpOp_of_list (by rfl) ?_
     go_wp2
     exact HK.out _ _ ⟨_, _, _, _, _, _, _, _, rfl, hJ.up HPART.out 5 (by decide) (show 5 < 8 by decide) rfl⟩
    ·obtain rfl := Option.some.inj ho
     have d0 : x0 = .map (some m1) := hJ.val 0 (show 0 < 8 by decide) (by decide) (getD_upJ (hd ⟨0, .data⟩ (by simp) (by rfl)))
     have d2 : x2 = .int .i64 (fi : Int) := hJ.val 2 (show 2 < 8 by decide) (by decide) (getD_upJ (hd ⟨2, .data⟩ (by simp) (by rfl)))
     subst d0 d2
     obtain ⟨D, e1, e2, e3⟩ := hJ.part.a0 hun
     have HST := hd0 (fun (w2 : World) hg h1 => hJ.part.step1 HTM.out (W' := w2) hg h1)
     refine wpOp_of_list (by rfl) ?_
     refine wpList_mapUpdate_own _ rfl _ _ _ 205 rfl 3 4 intsK Tryz.underlying205 _ m1 k D rfl e1 (by unfold maxLen; omega) _ _ (.int .i64 (fi : Int)) rfl rfl (Maps.keyOf_int_mk Tryz.underlying3 HWFfi.out) (.lit (.bool true)) [] (plainElem_bool Tryz.underlying4 true) ?_
     intro w2 hown2 hgrow2
     have hput := ImM.put (lit := Lit.bool) (c := true) e2 e3 hown2
     clear e1 e2 e3 hown2
     go_wp2
     exact HK.out _ _ ⟨_, _, _, _, _, _, _, _, rfl, hJ.spec0 6 (by decide) (HST.out _ hgrow2 hput)⟩
    ·obtain rfl := Option.some.inj ho
     have d3 : x3 = .map (some m2) := hJ.val 3 (show 3 < 8 by decide) (by decide) (getD_upJ (hd ⟨3, .data⟩ (by simp) (by rfl)))
     have d5 : x5 = .int .i64 (si : Int) := hJ.val 5 (show 5 < 8 by decide) (by decide) (getD_upJ (hd ⟨5, .data⟩ (by simp) (by rfl)))
     subst d3 d5
     obtain ⟨D, e1, e2, e3⟩ := hJ.part.c0 hun
     have HST := hd0 (fun (w2 : World) hg h1 => hJ.part.step2 HTM.out (W' := w2) hg h1)
     refine wpOp_of_list (by rfl) ?_
     refine wpList_mapUpdate_own _ rfl _ _ _ 205 rfl 3 4 intsK Tryz.underlying205 _ m2 k D rfl e1 (by unfold maxLen; omega) _ _ (.int .i64 (si : Int)) rfl rfl (Maps.keyOf_int_mk Tryz.underlying3 HWFsi.out) (.lit (.bool true)) [] (plainElem_bool Tryz.underlying4 true) ?_
     intro w2 hown2 hgrow2
     have hput := ImM.put (lit := Lit.bool) (c := true) e2 e3 hown2
     clear e1 e2 e3 hown2
     go_wp2
     exact HK.out _ _ ⟨_, _, _, _, _, _, _, _, rfl, hJ.spec0 7 (by decide) (HST.out _ hgrow2 hput)⟩
   ·intro vs L W hlen hJ hall
    obtain ⟨x0, vs0, rfl, hlen0⟩ := len_cons hlen
    obtain ⟨x1, vs1, rfl, hlen1⟩ := len_cons hlen0
    obtain ⟨x2, vs2, rfl, hlen2⟩ := len_cons hlen1
    obtain ⟨x3, vs3, rfl, hlen3⟩ := len_cons hlen2
    obtain ⟨x4, vs4, rfl, hlen4⟩ := len_cons hlen3
    obtain ⟨x5, vs5, rfl, hlen5⟩ := len_cons hlen4
    obtain ⟨x6, vs6, rfl, hlen6⟩ := len_cons hlen5
    obtain ⟨x7, vs7, rfl, hlen7⟩ := len_cons hlen6
    obtain rfl := len_nil hlen7
    clear hlen hlen0 hlen1 hlen2 hlen3 hlen4 hlen5 hlen6 hlen7
    have d0 : x0 = .map (some m1) := hJ.val 0 (show 0 < 8 by decide) (by decide) (hall 0 (of_decide_eq_true (by kernel_rfl)))
    have d1 : x1 = .pointer (some ⟨g8, 0, none⟩) := hJ.val 1 (show 1 < 8 by decide) (by decide) (hall 1 (of_decide_eq_true (by kernel_rfl)))
    have d2 : x2 = .int .i64 (fi : Int) := hJ.val 2 (show 2 < 8 by decide) (by decide) (hall 2 (of_decide_eq_true (by kernel_rfl)))
    have d3 : x3 = .map (some m2) := hJ.val 3 (show 3 < 8 by decide) (by decide) (hall 3 (of_decide_eq_true (by kernel_rfl)))
    have d4 : x4 = .pointer (some ⟨g8, 1, none⟩) := hJ.val 4 (show 4 < 8 by decide) (by decide) (hall 4 (of_decide_eq_true (by kernel_rfl)))
    have d5 : x5 = .int .i64 (si : Int) := hJ.val 5 (show 5 < 8 by decide) (by decide) (hall 5 (of_decide_eq_true (by kernel_rfl)))
    subst d0 d1 d2 d3 d4 d5
    have hN := hd0 (HLJ3.out.next HTK.out.1 HTK.out.2 hJ.part.size hJ.part.os hJ.part.tape hJ.part.output hJ.part.frame (hJ.part.a1 (hall 6 (of_decide_eq_true (by kernel_rfl)))) (hJ.part.c1 (hall 7 (of_decide_eq_true (by kernel_rfl)))))
    clear hJ hall
    simp only [putAll_cons, putAll_nil, put_some, put_none, List.setIfInBounds_toArray, List.set_cons_succ, List.set_cons_zero]
    go_wp2_with fail
    go_roundw
    case rel => exact ⟨k + 1, by omega, by go_num, hN.out⟩
    case measure => simp [intOf]; omega
  ·obtain rfl : k = x.lp.length := by omega
   go_wp2
   go_ret2
   exact ⟨_, rfl, HJ.out.row, ext_of HJ.out.below⟩


set_option maxRecDepth 100000 in
set_option maxHeartbeats 16000000 in
theorem lapValid_c (x : Dt) (hv : DtV x) (w : World) (h : DtAt w x) : Calls Tryz.prog 27 #[(.agg #[.string x.q.name, x.q.u, x.q.t, .int .i64 x.q.cover, .int .i64 x.q.agg, .int .i64 x.q.poker, x.lv, x.rv, x.pv, x.dv, .int .i64 x.ru.num, .int .i64 x.ru.den, .int .i64 x.ru.pn, .int .i64 x.ru.pd, .int .i64 x.ru.bn, .int .i64 x.ru.bd, .int .i64 x.ru.ln, .int .i64 x.ru.ld, .int .i64 x.ru.least])] w (Ret w (.bool true)) := by
 have HX := hd0 h
 have HLK := hd0 (look_c x hv)
 clear h hv
 go_enter Tryz.func27, Tryz.ntmps27
 go_upto_region 1 with fail
 refine world_mask (fun W => Below w.heap.size w W ∧ Blk W w.heap.size (dtC x) 34) _ ⟨gro, Blk.new _ _ _⟩ ?_
 rintro W1 ⟨hb1, K1⟩
 have HB1 := hd0 hb1
 have HK1 := hd0 K1
 clear hb1 K1
 go_wp2_with (first | (refine wpList_load_row rfl _ _ rfl _ rfl _ (dtC x) _ _ HK1.out rfl rfl rfl ?_) | (go_at_call 63; refine (HLK.out _ (HX.out.below (grob HB1.out))).mono ?_; rintro e w' ⟨vm, rfl, hown, x5, rfl⟩; obtain ⟨am, cm, rfl, -, -, -⟩ := own_shape hown; clear hown))
 go_ret
 exact Ret.of (grob HB1.out)

theorem nextI_step {l : List (Int × Int)} {k : Nat} (hk : k < l.length) {n m : Int} (hn : l[k] = (n, m)) (hfr : hasF (l.take k) (·.1) n = none) : nextI (l.take (k + 1)) = fun i => if i = n then some m else nextI (l.take k) i := by
 have hf : ∀ (t : List (Int × Int)) (i : Int), hasF t (·.1) i = none → t.find? (fun j => decide (j.1 = i)) = none := fun t i h => by
  unfold hasF at h
  split at h
  ·cases h
  ·rename_i q
   rw [List.find?_eq_none]
   exact fun j hj e => q (List.any_eq_true.2 ⟨j, hj, e⟩)
 rw [← List.take_append_getElem hk, hn]
 funext i
 unfold nextI
 rw [List.find?_append]
 by_cases h : i = n
 ·subst h
  rw [hf _ _ hfr]
  simp
 ·have : ([(n, m)] : List (Int × Int)).find? (fun j => decide (j.1 = i)) = none := by simp; exact fun e => h e.symm
  rw [this, if_neg h]
  simp
structure ChA (w : World) (lp : List (Int × Int)) (m1 m2 k : Nat) (W : World) : Prop where
 below : Below w.heap.size w W
 n : ImM 3 (Lit.int .i64) W m1 k (nextI (lp.take k))
 s : ImM 4 Lit.bool W m2 k (hasF (lp.take k) (·.2))
 g1 : w.heap.size ≤ m1
 g2 : w.heap.size ≤ m2
theorem ChA.grows {w : World} {lp : List (Int × Int)} {m1 m2 k : Nat} {W W' : World} (h : ChA w lp m1 m2 k W) (hb : Below W.heap.size W W') : ChA w lp m1 m2 k W' := ⟨h.below.trans (Below.mono hb h.below.size), h.n.below hb, h.s.below hb, h.g1, h.g2⟩
theorem ChA.next {w : World} {lp : List (Int × Int)} {m1 m2 k : Nat} {W W' : World} (h : ChA w lp m1 m2 k W) {F1 : Int → Option Int} {F2 : Int → Option Bool} (e1 : nextI (lp.take (k + 1)) = F1) (e2 : hasF (lp.take (k + 1)) (·.2) = F2)
  (hs : W.heap.size ≤ W'.heap.size) (ho : W'.os = W.os) (ht : W'.tape = W.tape) (hu : W'.output = W.output) (hf : ∀ k, k < W.heap.size → k ≠ m1 → k ≠ m2 → W'.heap[k]? = W.heap[k]?) (h1 : ImM 3 (Lit.int .i64) W' m1 (k + 1) F1) (h2 : ImM 4 Lit.bool W' m2 (k + 1) F2) : ChA w lp m1 m2 (k + 1) W' := by
 subst e1 e2
 refine ⟨⟨ho.trans h.below.os, ht.trans h.below.tape, hu.trans h.below.output, Nat.le_trans h.below.size hs, fun k hk => ?_⟩, h1, h2, h.g1, h.g2⟩
 rw [hf k (Nat.lt_of_lt_of_le hk h.below.size) (by have := h.g1; omega) (by have := h.g2; omega)]
 exact h.below.block k hk
def chnTo (lp : List (Int × Int)) (k : Nat) : List (List Int) := (((List.range k).map fun i : Nat => (i : Int)).filter fun i => !secB lp i).map (chainF lp 2097154)
theorem chnTo_succ (lp : List (Int × Int)) (k : Nat) : chnTo lp (k + 1) = chnTo lp k ++ (if secB lp k = true then [] else [chainF lp 2097154 k]) := by
 unfold chnTo
 rw [List.range_succ, List.map_append, List.filter_append, List.map_append]
 congr 1
 cases h : secB lp (k : Int) <;> simp [h]
structure Rws (w W : World) (v : Value) (L : List (List Int)) : Prop where
 row : ∃ vs : List Value, W.ownsRow w.heap.size 48 1 v L.length vs ∧ vs.length = L.length ∧ ∀ i (h : i < L.length) (h' : i < vs.length), W.ownsRow w.heap.size 3 1 vs[i] (L[i]).length ((L[i]).map (Value.int .i64))
theorem Rws.grows {w W W' : World} {v : Value} {L : List (List Int)} (h : Rws w W v L) (hb : Below W.heap.size W W') : Rws w W' v L := by
 obtain ⟨vs, h1, h2, h3⟩ := h.row
 exact ⟨vs, own_grows h1 hb, h2, fun i hi hi' => own_grows (h3 i hi hi') hb⟩
structure ChB (w : World) (lp : List (Int × Int)) (m1 m2 : Nat) (v : Value) (L : List (List Int)) (W : World) : Prop where
 below : Below w.heap.size w W
 n : ImM 3 (Lit.int .i64) W m1 lp.length (nextI lp)
 s : ImM 4 Lit.bool W m2 lp.length (hasF lp (·.2))
 g1 : w.heap.size ≤ m1
 g2 : w.heap.size ≤ m2
 rws : Rws w W v L
theorem ChB.grows {w : World} {lp : List (Int × Int)} {m1 m2 : Nat} {v : Value} {L : List (List Int)} {W W' : World} (h : ChB w lp m1 m2 v L W) (hb : Below W.heap.size W W') : ChB w lp m1 m2 v L W' := ⟨h.below.trans (Below.mono hb h.below.size), h.n.below hb, h.s.below hb, h.g1, h.g2, h.rws.grows hb⟩
theorem ChB.app {w : World} {lp : List (Int × Int)} {m1 m2 : Nat} {v v' vc : Value} {L : List (List Int)} {W W' : World} {vs : List Value} {c : List Int} (h : ChB w lp m1 m2 v L W) (h1 : W.ownsRow w.heap.size 48 1 v L.length vs) (h2 : vs.length = L.length)
  (h3 : ∀ i (h : i < L.length) (h' : i < vs.length), W.ownsRow w.heap.size 3 1 vs[i] (L[i]).length ((L[i]).map (Value.int .i64))) (hc : W.ownsRow w.heap.size 3 1 vc c.length (c.map (Value.int .i64)))
  (hown : W'.ownsRow w.heap.size 48 1 v' (L.length + 1) (vs ++ [vc])) (hg : W.grownBy W' v.ownBlock) : ChB w lp m1 m2 v' (L ++ [c]) W' := by
 have hin : ∀ {u : Value} {n : Nat} {xs : List Value}, W.ownsRow w.heap.size 3 1 u n xs → W'.ownsRow w.heap.size 3 1 u n xs := fun {u n xs} hu => own_heap hu fun b hb => hg.block b (hu.lt b hb).2 (own_apart hu h1 (by decide) b hb)
 have n1 := own_ne_map h1 h.n
 have n2 := own_ne_map h1 h.s
 refine ⟨h.below.grown hg h.below.size (fun j e => (h1.lt j e).1), h.n.same (hg.block m1 h.n.lt (fun e => n1 e.symm)), h.s.same (hg.block m2 h.s.lt (fun e => n2 e.symm)), h.g1, h.g2, ⟨vs ++ [vc], by rw [List.length_append]; exact hown, by simp [h2], fun i hi hi' => ?_⟩⟩
 by_cases hlt : i < L.length
 ·have e1 : (L ++ [c])[i] = L[i] := List.getElem_append_left hlt
  have e2 : (vs ++ [vc])[i] = vs[i]'(by omega) := List.getElem_append_left (by omega)
  rw [e1, e2]
  exact hin (h3 i hlt (by omega))
 ·have hi2 : i = L.length := by simp at hi; omega
  subst hi2
  have e1 : (L ++ [c])[L.length] = c := by simp
  have e2 : (vs ++ [vc])[L.length] = vc := by simp [← h2]
  rw [e1, e2]
  exact hin hc
theorem info_sl : (Tryz.prog.info? 48).map (fun i => (i.zero, i.size, i.bytes)) = some (some (.slice none 0 0), 1, 24) := by kernel_rfl
theorem chainF_length (lp : List (Int × Int)) (f : Nat) : ∀ i, (chainF lp f i).length ≤ f + 1 := by
 induction f with
 | zero => intro i; simp [chainF]
 | succ f ih =>
   intro i
   unfold chainF
   cases nextI lp i with
   | none => simp
   | some k => simpa using ih k
theorem chainF_some {lp : List (Int × Int)} {f : Nat} {i j : Int} (h : nextI lp i = some j) : chainF lp (f + 1) i = i :: chainF lp f j := by
 rw [chainF, h]
theorem lpOk_of (x : Dt) (hv : DtV x) : LpOk (mainI x.l x.rs) (countS x.rs) x.lp := by
 refine ⟨fun j hj => ?_, fun i b h0 h1 h => ?_⟩
 ·obtain ⟨h1, h2, h3⟩ := hv.laps.one j hj
  exact ⟨h1, h2, h3⟩
 ·have h2 := valid_iff.1 (legsI_valid hv.laid h0 h1 b (List.mem_of_find?_eq_some h))
  omega
theorem own_one (W : World) (c : Value) (e : TypeId) : (W.alloc (.cells #[c] e)).ownsRow W.heap.size e 1 (.slice (some ⟨W.heap.size, 0, none⟩) 1 1) 1 [c] :=
 ⟨by simp, .inr ⟨W.heap.size, 1, #[c], rfl, Nat.le_refl _, heap_alloc_new W _, Nat.le_refl _, by decide, by simp, by simp⟩⟩
theorem meas_le {M : Int → Option Bx} {n : Int} {lp : List (Int × Int)} (h : LpOk M n lp) {i : Int} (h0 : 0 ≤ i) (h1 : i < n) : measI M i ≤ 2097153 := by
 unfold measI
 cases e : M i with
 | none => simp
 | some b => have := (h.near i b h0 h1 e).1; simp only; omega
theorem chnTo_le (lp : List (Int × Int)) (k : Nat) : (chnTo lp k).length ≤ k := by
 unfold chnTo
 rw [List.length_map]
 exact Nat.le_trans (List.length_filter_le _ _) (by simp)
theorem secB_hasF (lp : List (Int × Int)) (i : Int) : (hasF lp (·.2) i).getD false = secB lp i := by
 unfold hasF secB
 cases h : (lp.any fun j => decide (j.2 = i)) <;> simp
set_option maxRecDepth 100000 in
set_option maxHeartbeats 16000000 in
theorem chains_c (x : Dt) (hv : DtV x) (w : World) (h : DtAt w x) : Calls Tryz.prog 216 #[(.agg #[.string x.q.name, x.q.u, x.q.t, .int .i64 x.q.cover, .int .i64 x.q.agg, .int .i64 x.q.poker, x.lv, x.rv, x.pv, x.dv, .int .i64 x.ru.num, .int .i64 x.ru.den, .int .i64 x.ru.pn, .int .i64 x.ru.pd, .int .i64 x.ru.bn, .int .i64 x.ru.bd, .int .i64 x.ru.ln, .int .i64 x.ru.ld, .int .i64 x.ru.least]), .int .i64 (countS x.rs)] w (fun e W => ∃ v, e = .returned v ∧ Rws w W v (chnTo x.lp (countS x.rs).toNat) ∧ ∃ y, W = ext w y) := by
 have mp := h.lp
 obtain ⟨pa, pc, epv, p1, p2, p4⟩ := mp.shape
 have HEPV := hd0 epv
 have HP4 := hd0 p4
 have HV := hd0 hv
 have hlp := hv.laps.len
 have hmm := @run_makeMap Tryz.prog
 have HCT := hd0 (count_le hv.laid 0).2.2
 clear hv mp epv p4 h
 go_enter Tryz.func216, Tryz.ntmps216
 go_upto_region 1 with fail
 refine world_mask (fun W => Below w.heap.size w W ∧ Blk W w.heap.size (dtC x) 34) _ ⟨gro, Blk.new _ _ _⟩ ?_
 rintro W1 ⟨hb1, K1⟩
 have HB1 := hd0 hb1
 have HK1 := hd0 K1
 clear hb1 K1
 go_upto_region 2 with fail
 have hm12 : W1.heap.size ≠ W1.heap.size + 1 := by omega
 refine world_mask (fun W => ChA w x.lp W1.heap.size (W1.heap.size + 1) 0 W ∧ Blk W w.heap.size (dtC x) 34) _ ⟨⟨grob HB1.out, ?_, ?_, by have := HB1.out.size; omega, by have := HB1.out.size; omega⟩, HK1.out.below gro⟩ ?_
 ·rw [List.take_zero]
  exact (ImM.made W1 3 (Lit.int .i64)).below gro
 ·rw [List.take_zero, hasF_nil]
  exact (show ImM 4 Lit.bool _ (W1.heap.size + 1) 0 _ from by have h := ImM.made (W1.alloc (.map #[] 0)) 4 Lit.bool; rw [World.size_alloc] at h; exact h)
 have HM12 := hd0 hm12
 clear hm12 hmm HB1 HK1
 generalize W1.heap.size + 1 = m2 at *
 generalize W1.heap.size = m1 at *
 rintro W4 ⟨J, K4⟩
 have c8 : W4.cell? ⟨w.heap.size, 8, none⟩ = some (.slice pa x.lp.length pc) := (K4.cell 8).trans (congrArg some HEPV.out)
 go_wp2_with fail
 go_loopw [19] (fun i wr => ∃ k : Nat, k ≤ x.lp.length ∧ i = .int .i64 k ∧ ChA w x.lp m1 m2 k wr) (fun i _ => x.lp.length - (intOf i).toNat)
 case atStart => exact ⟨0, Nat.zero_le _, rfl, J⟩
 case round =>
  clear J c8 K4
  obtain ⟨W5, rfl⟩ : ∃ W : World, W = wr := ⟨_, rfl⟩
  obtain ⟨k, hk, rfl, J⟩ := hrel
  have HJ := hd0 J
  clear J
  by_cases hlt : k < x.lp.length
  ·have q1 : (0 : Int) ≤ (k : Int) := by omega
   have q2 : (k : Int) < (x.lp.length : Int) := by omega
   obtain ⟨⟨r1a, r1b⟩, ⟨r2a, r2b⟩, -⟩ := HV.out.laps.one _ (List.getElem_mem hlt)
   obtain ⟨fi, si, hjk⟩ : ∃ fi si : Nat, x.lp[k] = ((fi : Int), (si : Int)) := ⟨_, _, Prod.ext (Int.toNat_of_nonneg r1a).symm (Int.toNat_of_nonneg r2a).symm⟩
   obtain ⟨bp, op, epa, hp⟩ := HP4.out k hlt
   have u1 := hasF_fresh (f := fun j => j.1) HV.out.laps.first hlt (n := (fi : Int)) (by rw [hjk])
   have s1 := nextI_step hlt hjk u1
   have s2 := hasF_step (f := fun j => j.2) hlt (n := (si : Int)) (by rw [hjk])
   have HTK := hd0 (And.intro s1 s2)
   rw [hjk] at hp r1a r1b r2a r2b
   simp only at r1a r1b r2a r2b
   have hcb := HCT.out
   have HWFfi := hd0 (int_wf (d := (fi : Int)) (by omega))
   have HWFsi := hd0 (int_wf (d := (si : Int)) (by omega))
   clear s1 s2 u1 r1a r1b r2a r2b hcb
   subst epa
   obtain ⟨p0, p1'⟩ := (show PrAt W5 bp (op + k * 2) ((fi : Int), (si : Int)) from by obtain ⟨y, hy⟩ := ext_of HJ.out.below; rw [hy]; exact hp.ext y)
   simp only at p0 p1'
   clear hp hjk
   go_upto_region 5 with fail
   refine world_mask (fun W => ChA w x.lp m1 m2 k W ∧ Blk W W5.heap.size #[.int .i64 (fi : Int), .int .i64 (si : Int)] 128) _ ⟨HJ.out.grows gro, Blk.new _ _ _⟩ ?_
   clear p0 p1'
   have hn81 : W5.heap.size ≠ m1 := by have := HJ.out.n.lt; omega
   have hn82 : W5.heap.size ≠ m2 := by have := HJ.out.s.lt; omega
   have HN8 := hd0 (And.intro hn81 hn82)
   clear hn81 hn82 HJ
   generalize W5.heap.size = g8 at *
   rintro W3 ⟨J3, K3⟩
   have HLJ3 := hd0 J3
   have H8 := hd0 K3
   have HTM : Hid (TmOk 8 9 W3 m1 m2 (fun W => ImM 3 (Lit.int .i64) W m1 k (nextI (x.lp.take k))) (fun W => ImM 3 (Lit.int .i64) W m1 (k + 1) (fun i => if i = (fi : Int) then some (si : Int) else nextI (x.lp.take k) i)) (fun W => ImM 4 Lit.bool W m2 k (hasF (x.lp.take k) (·.2))) (fun W => ImM 4 Lit.bool W m2 (k + 1) (fun i => if i = (si : Int) then some true else hasF (x.lp.take k) (·.2) i))) := hd0 ⟨HM12.out, J3.n.lt, J3.s.lt, by decide, fun _ _ hb h => ImM.same h hb, fun _ _ hb h => ImM.same h hb, fun _ _ hb h => ImM.same h hb, fun _ _ hb h => ImM.same h hb⟩
   clear J3 K3
   have hpart : PartG [8, 9] (TmJ 8 9 W3 m1 m2 (fun W => ImM 3 (Lit.int .i64) W m1 k (nextI (x.lp.take k))) (fun W => ImM 3 (Lit.int .i64) W m1 (k + 1) (fun i => if i = (fi : Int) then some (si : Int) else nextI (x.lp.take k) i)) (fun W => ImM 4 Lit.bool W m2 k (hasF (x.lp.take k) (·.2))) (fun W => ImM 4 Lit.bool W m2 (k + 1) (fun i => if i = (si : Int) then some true else hasF (x.lp.take k) (·.2) i))) := (TmJ.part HTM.out)
   have HPART := hd0 hpart
   clear hpart
   refine wp_region_G [.map (some m1), .pointer (some ⟨g8, 0, none⟩), .int .i64 (fi : Int), .map (some m2), .pointer (some ⟨g8, 1, none⟩), .int .i64 (si : Int), .pointer (some ⟨g8, 1, none⟩), .int .i64 (si : Int), undef, undef] [8, 9] (TmJ 8 9 W3 m1 m2 (fun W => ImM 3 (Lit.int .i64) W m1 k (nextI (x.lp.take k))) (fun W => ImM 3 (Lit.int .i64) W m1 (k + 1) (fun i => if i = (fi : Int) then some (si : Int) else nextI (x.lp.take k) i)) (fun W => ImM 4 Lit.bool W m2 k (hasF (x.lp.take k) (·.2))) (fun W => ImM 4 Lit.bool W m2 (k + 1) (fun i => if i = (si : Int) then some true else hasF (x.lp.take k) (·.2) i))) (by kernel_rfl) (by kernel_rfl) ?_ ?_ ?_
   ·intro vs hlen
    exact TmJ.init (repL (show 8 < 10 by decide)) (repL (show 9 < 10 by decide)) (ImM.same HLJ3.out.n rfl) (ImM.same HLJ3.out.s rfl)
   ·intro L vs W i hlen hJ hi
    obtain ⟨x0, vs0, rfl, hlen0⟩ := len_cons hlen
    obtain ⟨x1, vs1, rfl, hlen1⟩ := len_cons hlen0
    obtain ⟨x2, vs2, rfl, hlen2⟩ := len_cons hlen1
    obtain ⟨x3, vs3, rfl, hlen3⟩ := len_cons hlen2
    obtain ⟨x4, vs4, rfl, hlen4⟩ := len_cons hlen3
    obtain ⟨x5, vs5, rfl, hlen5⟩ := len_cons hlen4
    obtain ⟨x6, vs6, rfl, hlen6⟩ := len_cons hlen5
    obtain ⟨x7, vs7, rfl, hlen7⟩ := len_cons hlen6
    obtain ⟨x8, vs8, rfl, hlen8⟩ := len_cons hlen7
    obtain ⟨x9, vs9, rfl, hlen9⟩ := len_cons hlen8
    obtain rfl := len_nil hlen9
    clear hlen hlen0 hlen1 hlen2 hlen3 hlen4 hlen5 hlen6 hlen7 hlen8 hlen9
    obtain ⟨hun, o, ho, hd⟩ := mem_ready.1 hi
    have hin : i < 10 := by have := (Array.getElem?_eq_some_iff.1 ho).1; simpa using this
    refine wpOp_free (B := fun a' W' => ∃ x0 x1 x2 x3 x4 x5 x6 x7 x8 x9, a' = putAll _ [x0, x1, x2, x3, x4, x5, x6, x7, x8, x9] _ ∧ InvG _ _ _ [x0, x1, x2, x3, x4, x5, x6, x7, x8, x9] (L.setIfInBounds i true) W') (fun _ _ h => by obtain ⟨x0, x1, x2, x3, x4, x5, x6, x7, x8, x9, h1, h2⟩ := h; exact ⟨[x0, x1, x2, x3, x4, x5, x6, x7, x8, x9], rfl, h1, h2⟩) ?_
    intro K HK
    simp only [putAll_cons, putAll_nil, put_some, put_none, List.setIfInBounds_toArray, List.set_cons_succ, List.set_cons_zero] at HK ⊢
    have hb8 := H8.out.of_block (hJ.part.frame g8 H8.out.lt HN8.out.1 HN8.out.2)
    have k0 : W.cell? ⟨g8, 0, none⟩ = some (.int .i64 (fi : Int)) := hb8.cell 0
    have k1 : W.cell? ⟨g8, 1, none⟩ = some (.int .i64 (si : Int)) := hb8.cell 1
    clear hb8
    rcases (show i = 0 ∨ i = 1 ∨ i = 2 ∨ i = 3 ∨ i = 4 ∨ i = 5 ∨ i = 6 ∨ i = 7 ∨ i = 8 ∨ i = 9 by omega) with rfl | rfl | rfl | rfl | rfl | rfl | rfl | rfl | rfl | rfl
    ·obtain rfl := Option.some.inj ho
     refine wpOp_of_list (by rfl) ?_
     go_wp2
     exact HK.out _ _ ⟨_, _, _, _, _, _, _, _, _, _, rfl, hJ.up HPART.out 0 (by decide) (show 0 < 10 by decide) rfl⟩
    ·obtain rfl := Option.some.inj ho
     refine wpOp_of_list (by rfl) ?_
     go_wp2
     exact HK.out _ _ ⟨_, _, _, _, _, _, _, _, _, _, rfl, hJ.up HPART.out 1 (by decide) (show 1 < 10 by decide) rfl⟩
    ·obtain rfl := Option.some.inj ho
     have d1 : x1 = .pointer (some ⟨g8, 0, none⟩) := hJ.val 1 (show 1 < 10 by decide) (by decide) (getD_upJ (hd ⟨1, .data⟩ (by simp) (by rfl)))
     subst d1
     refine wpOp_of_list (by rfl) ?_
     go_wp2
     exact HK.out _ _ ⟨_, _, _, _, _, _, _, _, _, _, rfl, hJ.up HPART.out 2 (by decide) (show 2 < 10 by decide) rfl⟩
    ·obtain rfl := Option.some.inj ho
     refine wpOp_of_list (by rfl) ?_
     go_wp2
     exact HK.out _ _ ⟨_, _, _, _, _, _, _, _, _, _, rfl, hJ.up HPART.out 3 (by decide) (show 3 < 10 by decide) rfl⟩
    ·obtain rfl := Option.some.inj ho
     refine wpOp_of_list (by rfl) ?_
     go_wp2
     exact HK.out _ _ ⟨_, _, _, _, _, _, _, _, _, _, rfl, hJ.up HPART.out 4 (by decide) (show 4 < 10 by decide) rfl⟩
    ·obtain rfl := Option.some.inj ho
     have d4 : x4 = .pointer (some ⟨g8, 1, none⟩) := hJ.val 4 (show 4 < 10 by decide) (by decide) (getD_upJ (hd ⟨4, .data⟩ (by simp) (by rfl)))
     subst d4
     refine wpOp_of_list (by rfl) ?_
     go_wp2
     exact HK.out _ _ ⟨_, _, _, _, _, _, _, _, _, _, rfl, hJ.up HPART.out 5 (by decide) (show 5 < 10 by decide) rfl⟩
    ·obtain rfl := Option.some.inj ho
     refine wpOp_of_list (by rfl) ?_
     go_wp2
     exact HK.out _ _ ⟨_, _, _, _, _, _, _, _, _, _, rfl, hJ.up HPART.out 6 (by decide) (show 6 < 10 by decide) rfl⟩
    ·obtain rfl := Option.some.inj ho
     have d6 : x6 = .pointer (some ⟨g8, 1, none⟩) := hJ.val 6 (show 6 < 10 by decide) (by decide) (getD_upJ (hd ⟨6, .data⟩ (by simp) (by rfl)))
     subst d6
     refine wpOp_of_list (by rfl) ?_
     go_wp2
     exact HK.out _ _ ⟨_, _, _, _, _, _, _, _, _, _, rfl, hJ.up HPART.out 7 (by decide) (show 7 < 10 by decide) rfl⟩
    ·obtain rfl := Option.some.inj ho
     have d0 : x0 = .map (some m1) := hJ.val 0 (show 0 < 10 by decide) (by decide) (getD_upJ (hd ⟨0, .data⟩ (by simp) (by rfl)))
     have d2 : x2 = .int .i64 (fi : Int) := hJ.val 2 (show 2 < 10 by decide) (by decide) (getD_upJ (hd ⟨2, .data⟩ (by simp) (by rfl)))
     have d7 : x7 = .int .i64 (si : Int) := hJ.val 7 (show 7 < 10 by decide) (by decide) (getD_upJ (hd ⟨7, .data⟩ (by simp) (by rfl)))
     subst d0 d2 d7
     obtain ⟨D, e1, e2, e3⟩ := hJ.part.a0 hun
     have HST := hd0 (fun (w2 : World) hg h1 => hJ.part.step1 HTM.out (W' := w2) hg h1)
     refine wpOp_of_list (by rfl) ?_
     refine wpList_mapUpdate_own _ rfl _ _ _ 310 rfl 3 3 intsK Tryz.underlying310 _ m1 k D rfl e1 (by unfold maxLen; omega) _ _ (.int .i64 (fi : Int)) rfl rfl (Maps.keyOf_int_mk Tryz.underlying3 HWFfi.out) (.lit (.int .i64 (si : Int))) [] (plainElem_int Tryz.underlying3 HWFsi.out) ?_
     intro w2 hown2 hgrow2
     have hput := ImM.put (lit := Lit.int .i64) (c := (si : Int)) e2 e3 hown2
     clear e1 e2 e3 hown2
     go_wp2
     exact HK.out _ _ ⟨_, _, _, _, _, _, _, _, _, _, rfl, hJ.spec0 8 (by decide) (HST.out _ hgrow2 hput)⟩
    ·obtain rfl := Option.some.inj ho
     have d3 : x3 = .map (some m2) := hJ.val 3 (show 3 < 10 by decide) (by decide) (getD_upJ (hd ⟨3, .data⟩ (by simp) (by rfl)))
     have d5 : x5 = .int .i64 (si : Int) := hJ.val 5 (show 5 < 10 by decide) (by decide) (getD_upJ (hd ⟨5, .data⟩ (by simp) (by rfl)))
     subst d3 d5
     obtain ⟨D, e1, e2, e3⟩ := hJ.part.c0 hun
     have HST := hd0 (fun (w2 : World) hg h1 => hJ.part.step2 HTM.out (W' := w2) hg h1)
     refine wpOp_of_list (by rfl) ?_
     refine wpList_mapUpdate_own _ rfl _ _ _ 205 rfl 3 4 intsK Tryz.underlying205 _ m2 k D rfl e1 (by unfold maxLen; omega) _ _ (.int .i64 (si : Int)) rfl rfl (Maps.keyOf_int_mk Tryz.underlying3 HWFsi.out) (.lit (.bool true)) [] (plainElem_bool Tryz.underlying4 true) ?_
     intro w2 hown2 hgrow2
     have hput := ImM.put (lit := Lit.bool) (c := true) e2 e3 hown2
     clear e1 e2 e3 hown2
     go_wp2
     exact HK.out _ _ ⟨_, _, _, _, _, _, _, _, _, _, rfl, hJ.spec0 9 (by decide) (HST.out _ hgrow2 hput)⟩
   ·intro vs L W hlen hJ hall
    obtain ⟨x0, vs0, rfl, hlen0⟩ := len_cons hlen
    obtain ⟨x1, vs1, rfl, hlen1⟩ := len_cons hlen0
    obtain ⟨x2, vs2, rfl, hlen2⟩ := len_cons hlen1
    obtain ⟨x3, vs3, rfl, hlen3⟩ := len_cons hlen2
    obtain ⟨x4, vs4, rfl, hlen4⟩ := len_cons hlen3
    obtain ⟨x5, vs5, rfl, hlen5⟩ := len_cons hlen4
    obtain ⟨x6, vs6, rfl, hlen6⟩ := len_cons hlen5
    obtain ⟨x7, vs7, rfl, hlen7⟩ := len_cons hlen6
    obtain ⟨x8, vs8, rfl, hlen8⟩ := len_cons hlen7
    obtain ⟨x9, vs9, rfl, hlen9⟩ := len_cons hlen8
    obtain rfl := len_nil hlen9
    clear hlen hlen0 hlen1 hlen2 hlen3 hlen4 hlen5 hlen6 hlen7 hlen8 hlen9
    have d0 : x0 = .map (some m1) := hJ.val 0 (show 0 < 10 by decide) (by decide) (hall 0 (of_decide_eq_true (by kernel_rfl)))
    have d1 : x1 = .pointer (some ⟨g8, 0, none⟩) := hJ.val 1 (show 1 < 10 by decide) (by decide) (hall 1 (of_decide_eq_true (by kernel_rfl)))
    have d2 : x2 = .int .i64 (fi : Int) := hJ.val 2 (show 2 < 10 by decide) (by decide) (hall 2 (of_decide_eq_true (by kernel_rfl)))
    have d3 : x3 = .map (some m2) := hJ.val 3 (show 3 < 10 by decide) (by decide) (hall 3 (of_decide_eq_true (by kernel_rfl)))
    have d4 : x4 = .pointer (some ⟨g8, 1, none⟩) := hJ.val 4 (show 4 < 10 by decide) (by decide) (hall 4 (of_decide_eq_true (by kernel_rfl)))
    have d5 : x5 = .int .i64 (si : Int) := hJ.val 5 (show 5 < 10 by decide) (by decide) (hall 5 (of_decide_eq_true (by kernel_rfl)))
    have d6 : x6 = .pointer (some ⟨g8, 1, none⟩) := hJ.val 6 (show 6 < 10 by decide) (by decide) (hall 6 (of_decide_eq_true (by kernel_rfl)))
    have d7 : x7 = .int .i64 (si : Int) := hJ.val 7 (show 7 < 10 by decide) (by decide) (hall 7 (of_decide_eq_true (by kernel_rfl)))
    subst d0 d1 d2 d3 d4 d5 d6 d7
    have hN := hd0 (HLJ3.out.next HTK.out.1 HTK.out.2 hJ.part.size hJ.part.os hJ.part.tape hJ.part.output hJ.part.frame (hJ.part.a1 (hall 8 (of_decide_eq_true (by kernel_rfl)))) (hJ.part.c1 (hall 9 (of_decide_eq_true (by kernel_rfl)))))
    clear hJ hall
    simp only [putAll_cons, putAll_nil, put_some, put_none, List.setIfInBounds_toArray, List.set_cons_succ, List.set_cons_zero]
    go_wp2_with fail
    go_roundw
    case rel => exact ⟨k + 1, by omega, by go_num, hN.out⟩
    case measure => simp [intOf]; omega
  ·obtain rfl : k = x.lp.length := by omega
   have HB0 := hd0 (show ChB w x.lp m1 m2 (.slice none 0 0) (chnTo x.lp 0) W5 from ⟨HJ.out.below, by have h := HJ.out.n; rw [List.take_length] at h; exact h, by have h := HJ.out.s; rw [List.take_length] at h; exact h, HJ.out.g1, HJ.out.g2, ⟨[], World.ownsRow_nil _ _ _ _, rfl, fun i hi => absurd hi (by simp [chnTo])⟩⟩)
   have hc0 : 0 ≤ countS x.rs := by have h := (count_le HV.out.laid x.rs.length).1; rw [List.take_length] at h; exact h
   have HLP := hd0 (lpOk_of x HV.out)
   clear HJ
   go_wp2_with fail
   go_loopw [33, 9] (fun i v wr => ∃ k : Nat, (k : Int) ≤ countS x.rs ∧ i = .int .i64 k ∧ ChB w x.lp m1 m2 v (chnTo x.lp k) wr) (fun i _ _ => (countS x.rs).toNat - (intOf i).toNat)
   case atStart => exact ⟨0, by omega, rfl, HB0.out⟩
   case round =>
    clear HB0
    obtain ⟨W6, rfl⟩ : ∃ W : World, W = wr := ⟨_, rfl⟩
    obtain ⟨k, hk, rfl, J⟩ := hrel
    have HJ := hd0 J
    clear J
    have hcb := HCT.out
    obtain ⟨vs, hrow, hlen, hin⟩ := HJ.out.rws.row
    obtain ⟨av, cv, rfl, -, hcv, -⟩ := own_shape hrow
    have HROW := hd0 hrow
    have HLEN := hd0 hlen
    have HIN := hd0 hin
    clear hrow hlen hin
    by_cases hlt2 : (k : Int) < countS x.rs
    ·have q1 : (0 : Int) ≤ (k : Int) := by omega
     have HWK := hd0 (int_wf (d := (k : Int)) (by omega))
     have hl0 : (Instr.lookup 205 (.map (some m2)) (.int .i64 (k : Int)) false).run Tryz.prog W6 = .ok (.bool (secB x.lp k)) W6 := by
      have h := ImM.look HJ.out.s (k : Int) HWK.out
      rw [secB_hasF] at h
      exact h
     have HSU := hd0 (chnTo_succ x.lp k)
     cases hs : secB x.lp (k : Int)
     ·rw [hs] at HSU hl0
      clear hs
      go_upto_region 13 with fail
      refine world_mask (fun W => Below W6.heap.size W6 W ∧ W.ownsRow W6.heap.size 3 1 (.slice (some ⟨W6.heap.size, 0, none⟩) 1 1) 1 [.int .i64 (k : Int)]) _ ⟨gro, own_one _ _ _⟩ ?_
      clear hl0
      rintro W7 ⟨hb7, hc7⟩
      have hl1 := ImM.lookOk (HJ.out.n.below hb7) (k : Int) HWK.out
      have HB7 := hd0 hb7
      have HC7 := hd0 hc7
      clear hb7 hc7
      go_upto_region 14 with fail
      go_loopw [11, 12, 13] (fun vc vn vo wr => ∃ (pre : List Int) (i : Int) (f : Nat), (0 ≤ i ∧ i ≤ 2000) ∧ measI (mainI x.l x.rs) i ≤ f ∧ pre ++ chainF x.lp (f + 1) i = chainF x.lp 2097154 k ∧ ((nextI x.lp i = none ∧ vn = .int .i64 0 ∧ vo = .bool false) ∨ ∃ j, nextI x.lp i = some j ∧ vn = .int .i64 j ∧ vo = .bool true) ∧ Below W6.heap.size W6 wr ∧ wr.ownsRow W6.heap.size 3 1 vc (pre.length + 1) ((pre ++ [i]).map (Value.int .i64))) (fun _ vn vo _ => match vo with | .bool true => measI (mainI x.l x.rs) (intOf vn) + 1 | _ => 0)
      case atStart =>
       refine ⟨[], k, 2097153, by omega, meas_le HLP.out (by omega) (by omega), rfl, ?_, HB7.out, HC7.out⟩
       cases hn : nextI x.lp k with
       | none => exact .inl ⟨rfl, rfl, rfl⟩
       | some j => exact .inr ⟨j, rfl, rfl, rfl⟩
      case round =>
       clear hl1 HB7 HC7
       obtain ⟨W8, rfl⟩ : ∃ W : World, W = wr := ⟨_, rfl⟩
       obtain ⟨pre, i, f, hi, hm, hch, hcase, hb8, hc8⟩ := hrel
       obtain ⟨ac, cc, rfl, -, hcc, -⟩ := own_shape hc8
       have hcc3 : cc ≤ 9223372036854775807 := hcc
       have HB8 := hd0 hb8
       have HC8 := hd0 hc8
       have hcl := chainF_length x.lp 2097154 k
       rw [← hch, List.length_append] at hcl
       clear hb8 hc8 hcc
       rcases hcase with ⟨hn, rfl, rfl⟩ | ⟨j, hn, rfl, rfl⟩
       ·have hce : pre ++ [i] = chainF x.lp 2097154 k := by
         rw [← hch]
         congr 1
         unfold chainF
         rw [hn]
        have HCE := hd0 hce
        have hkl := chnTo_le x.lp k
        have HVC := hd0 (own_mono (base' := w.heap.size) HC8.out HJ.out.below.size)
        have hcv3 : cv ≤ 9223372036854775807 := hcv
        clear hce hch hn hcl hcv
        go_wp2_with (at_builtin; refine app_own_b rfl _ _ 242 rfl 48 (.slice none 0 0) 1 24 Tryz.underlying242 info_sl rfl (by decide) w.heap.size (.slice av (chnTo x.lp k).length cv) (chnTo x.lp k).length vs _ rfl ((own_grows HROW.out HB8.out).alloc _) _ 1 1 [.slice ac (pre.length + 1) cc] rfl rfl (cells_new ?_ _ _ _ rfl) (by simp [Value.oneCell']) (by omega) (by decide) ?_ ?_; (first | rfl | simp [size_ext]); (have := HB8.out.size; have := HJ.out.below.size; simp only [World.size_alloc]; omega); intro v' w1 hown' hgrow; have HO2 := hd0 hown'; obtain ⟨a', c', rfl, -, hc2, -⟩ := own_shape hown'; have hc3 : c' ≤ 9223372036854775807 := hc2; have HGR := hd0 hgrow; clear hown' hgrow hc2)
        go_roundw
        case rel => exact ⟨k + 1, by omega, by go_num, by
         rw [HSU.out, if_neg Bool.false_ne_true, ← HCE.out]
         refine ChB.app ((HJ.out.grows HB8.out).grows gro) ((own_grows HROW.out HB8.out).alloc _) HLEN.out (fun i hi hi' => ((own_grows (HIN.out i hi hi') HB8.out).alloc _)) (by rw [List.length_append]; exact HVC.out.alloc _) HO2.out HGR.out⟩
        case measure => simp [intOf]; omega
       ·have hjl := next_lap hn
        obtain ⟨-, ⟨r2a, r2b⟩, -⟩ := HV.out.laps.one _ hjl
        simp only at r2a r2b
        have HWJ := hd0 (int_wf (d := j) (by omega))
        have hms := next_meas HLP.out hn
        obtain ⟨f', rfl⟩ : ∃ f', f = f' + 1 := ⟨f - 1, by omega⟩
        have hch2 : (pre ++ [i]) ++ chainF x.lp (f' + 1) j = chainF x.lp 2097154 k := by
         rw [← hch, List.append_assoc, chainF_some hn]
         rfl
        have HCH := hd0 hch2
        have hcl2 : pre.length + 1 ≤ 2097155 := by
         have h := chainF_length x.lp 2097154 k
         rw [← hch2, List.length_append, List.length_append, List.length_singleton] at h
         omega
        clear hch hch2 hn hcl hjl
        cases hn2 : nextI x.lp j with
        | none =>
          have HN2 := hd0 hn2
          clear hn2
          go_wp2_with (at_builtin; refine app_own_b rfl _ _ 48 rfl 3 (.int .i64 0) 1 8 Tryz.underlying48 info_int rfl (by decide) (W6.heap.size) (.slice ac (pre.length + 1) cc) (pre.length + 1) ((pre ++ [i]).map (Value.int .i64)) _ rfl (HC8.out.alloc _) _ 1 1 [.int .i64 (j)] rfl rfl (cells_new ?_ _ _ _ rfl) (by simp [Value.oneCell']) (by omega) (by decide) ?_ ?_; (first | rfl | simp [size_ext]); (have := HB8.out.size; simp only [World.size_alloc]; omega); intro v' w1 hown' hgrow; have HO2 := hd0 hown'; obtain ⟨a', c', rfl, _, hc2, -⟩ := own_shape hown'; have hc3 : c' ≤ 9223372036854775807 := hc2; have HGR := hd0 hgrow; clear hown' hgrow hc2; have hb9 : Below W6.heap.size W6 w1 := Below.grown (grob HB8.out) HGR.out (by have := HB8.out.size; simp only [World.size_alloc]; omega) (fun b e => (HC8.out.lt b e).1); have hl2 := ImM.lookOk (HJ.out.n.below hb9) j HWJ.out; rw [HN2.out] at hl2; simp only [Option.getD_none, Option.isSome_none] at hl2; have HB9 := hd0 hb9; clear hb9)
          go_roundw
          case rel => exact ⟨pre ++ [i], j, f', by omega, by omega, HCH.out, .inl ⟨HN2.out, rfl, rfl⟩, HB9.out, by rw [List.map_append, List.length_append]; exact HO2.out⟩
          case measure => simp
        | some j2 =>
          have hms2 := next_meas HLP.out hn2
          have HN2 := hd0 hn2
          clear hn2
          go_wp2_with (at_builtin; refine app_own_b rfl _ _ 48 rfl 3 (.int .i64 0) 1 8 Tryz.underlying48 info_int rfl (by decide) (W6.heap.size) (.slice ac (pre.length + 1) cc) (pre.length + 1) ((pre ++ [i]).map (Value.int .i64)) _ rfl (HC8.out.alloc _) _ 1 1 [.int .i64 (j)] rfl rfl (cells_new ?_ _ _ _ rfl) (by simp [Value.oneCell']) (by omega) (by decide) ?_ ?_; (first | rfl | simp [size_ext]); (have := HB8.out.size; simp only [World.size_alloc]; omega); intro v' w1 hown' hgrow; have HO2 := hd0 hown'; obtain ⟨a', c', rfl, _, hc2, -⟩ := own_shape hown'; have hc3 : c' ≤ 9223372036854775807 := hc2; have HGR := hd0 hgrow; clear hown' hgrow hc2; have hb9 : Below W6.heap.size W6 w1 := Below.grown (grob HB8.out) HGR.out (by have := HB8.out.size; simp only [World.size_alloc]; omega) (fun b e => (HC8.out.lt b e).1); have hl2 := ImM.lookOk (HJ.out.n.below hb9) j HWJ.out; rw [HN2.out] at hl2; simp only [Option.getD_some, Option.isSome_some] at hl2; have HB9 := hd0 hb9; clear hb9)
          go_roundw
          case rel => exact ⟨pre ++ [i], j, f', by omega, by omega, HCH.out, .inr ⟨j2, HN2.out, rfl, rfl⟩, HB9.out, by rw [List.map_append, List.length_append]; exact HO2.out⟩
          case measure => simp [intOf]; omega
     ·rw [hs] at HSU hl0
      clear hs
      go_wp2_with fail
      go_roundw
      case rel => exact ⟨k + 1, by omega, by go_num, by rw [HSU.out, if_pos rfl, List.append_nil]; exact HJ.out⟩
      case measure => simp [intOf]; omega
    ·have hkn : k = (countS x.rs).toNat := by omega
     have HKN := hd0 hkn
     clear hkn
     go_wp2
     go_ret
     exact ⟨_, rfl, by rw [← HKN.out]; exact HJ.out.rws, ext_of HJ.out.below⟩

theorem Rws.mono {w0 w W : World} {v : Value} {L : List (List Int)} (h : Rws w W v L) (hs : w0.heap.size ≤ w.heap.size) : Rws w0 W v L := by
 obtain ⟨vs, h1, h2, h3⟩ := h.row
 exact ⟨vs, own_mono h1 hs, h2, fun i hi hi' => own_mono (h3 i hi hi') hs⟩
theorem Rws.shape {w W : World} {v : Value} {L : List (List Int)} (h : Rws w W v L) : ∃ a c, v = .slice a L.length c := by
 obtain ⟨vs, h1, -, -⟩ := h.row
 obtain ⟨a, c, rfl, -, -, -⟩ := own_shape h1
 exact ⟨a, c, rfl⟩
def chnI (x : Dt) : List (List Int) := chnTo x.lp (countS x.rs).toNat
set_option maxRecDepth 100000 in
set_option maxHeartbeats 16000000 in
theorem lapChains_c (x : Dt) (hv : DtV x) (w : World) (h : DtAt w x) : Calls Tryz.prog 164 #[(.agg #[.string x.q.name, x.q.u, x.q.t, .int .i64 x.q.cover, .int .i64 x.q.agg, .int .i64 x.q.poker, x.lv, x.rv, x.pv, x.dv, .int .i64 x.ru.num, .int .i64 x.ru.den, .int .i64 x.ru.pn, .int .i64 x.ru.pd, .int .i64 x.ru.bn, .int .i64 x.ru.bd, .int .i64 x.ru.ln, .int .i64 x.ru.ld, .int .i64 x.ru.least])] w (fun e W => ∃ v, e = .returned (.tuple #[v, .int .i64 0]) ∧ Rws w W v (chnI x) ∧ ∃ y, W = ext w y) := by
 have HX := hd0 h
 have HLK := hd0 (look_c x hv)
 have hc0 : 0 ≤ countS x.rs := by have h := (count_le hv.laid x.rs.length).1; rw [List.take_length] at h; exact h
 have hch := chains_c x hv
 rw [← Int.toNat_of_nonneg hc0, Int.toNat_natCast] at hch
 have hml : (mnsI x).length = (countS x.rs).toNat := mainsTo_length _ _ _
 rw [← hml] at hch
 have HCH := hd0 hch
 have HML := hd0 hml
 unfold chnI
 rw [← hml]
 clear h hv hch hc0 hml
 generalize mnsI x = M at *
 go_enter Tryz.func164, Tryz.ntmps164
 go_upto_region 1 with fail
 refine world_mask (fun W => Below w.heap.size w W ∧ Blk W w.heap.size (dtC x) 34) _ ⟨gro, Blk.new _ _ _⟩ ?_
 rintro W1 ⟨hb1, K1⟩
 have HB1 := hd0 hb1
 have HK1 := hd0 K1
 clear hb1 K1
 go_upto_region 4 with (first | (refine wpList_load_row rfl _ _ rfl _ rfl _ (dtC x) _ _ HK1.out rfl rfl rfl ?_) | (go_at_call 63; refine (HLK.out _ (HX.out.below (grob HB1.out))).mono ?_; rintro e w' ⟨vm, rfl, hown, x5, rfl⟩; obtain ⟨am, cm, rfl, -, -, -⟩ := own_shape hown; clear hown))
 refine world_mask (fun W => Below w.heap.size w W ∧ Blk W w.heap.size (dtC x) 34) _ ⟨grob HB1.out, HK1.out.below gro⟩ ?_
 clear HB1 HK1
 rintro W2 ⟨hb2, K2⟩
 have HB2 := hd0 hb2
 have HK2 := hd0 K2
 clear hb2 K2
 go_wp2_with (first | (refine wpList_load_row rfl _ _ rfl _ rfl _ (dtC x) _ _ HK2.out rfl rfl rfl ?_) | (go_at_call 216; refine (HCH.out _ (HX.out.below HB2.out)).mono ?_; rintro e w' ⟨vr, rfl, hrw, x6, rfl⟩; obtain ⟨ar, cr, rfl⟩ := hrw.shape; have HRW := hd0 (hrw.mono HB2.out.size); clear hrw))
 go_ret2
 exact ⟨_, rfl, HRW.out, ext_of (grob HB2.out)⟩
end Go.Proofs.YtkjljneehgmmaaaGreat

namespace Go.Proofs.YtkjljneehgmmaaaGreat
set_option linter.unusedVariables false
set_option linter.unusedSimpArgs false
open Go.RowKit
set_option maxRecDepth 20000

def legsN (b : Br) : List Int := (legsC b.code).map fun g => b.dims.getD g.1 0
structure LegsJ (w : World) (b : Br) (l : List (Nat × Int)) (gl k : Nat) (v : Value) (wr : World) : Prop where
 below : Below w.heap.size w wr
 bar : Blk wr w.heap.size #[.string b.mark, .int .i64 b.size, .int .i64 b.count, .int .i64 b.code, b.dv] 81
 legs : Blk wr gl (legCells l).toArray 273
 row : wr.ownsRow w.heap.size 3 1 v k (((l.take k).map fun g => b.dims.getD g.1 0).map (Value.int .i64))
theorem LegsJ.step {w : World} {b : Br} {l : List (Nat × Int)} {gl k : Nat} {v : Value} {wr : World} (h : LegsJ w b l gl k v wr) (o o2 : Obj) {v' : Value} {w2 : World} {n : Int} (hk : k < l.length) (hn : n = b.dims.getD (l[k]).1 0)
  (hown : w2.ownsRow w.heap.size 3 1 v' (k + 1) ((((l.take k).map fun g => b.dims.getD g.1 0).map (Value.int .i64)) ++ [.int .i64 n])) (hg : ((wr.alloc o).alloc o2).grownBy w2 v.ownBlock) : LegsJ w b l gl (k + 1) v' w2 := by
 have hrow := (h.row.alloc o).alloc o2
 refine ⟨(grow_alloc _ (grow_alloc _ h.below)).grown hg (by have := h.below.size; simp only [World.size_alloc]; omega) (fun j e => (hrow.lt j e).1), ((h.bar.alloc o).alloc o2).grown hg (((h.bar.alloc o).alloc o2).ne_row hrow (by decide)), ((h.legs.alloc o).alloc o2).grown hg (((h.legs.alloc o).alloc o2).ne_row hrow (by decide)), ?_⟩
 rw [List.take_succ_eq_append_getElem hk, List.map_append, List.map_append]
 rw [hn] at hown
 exact hown
set_option maxRecDepth 100000 in
set_option maxHeartbeats 4000000 in
theorem shapeLegs_c (b : Br) (h : shapeB b = true) (w : World) (hb : BrOk w b) :
  Calls Tryz.prog 140 #[(.agg #[.string b.mark, .int .i64 b.size, .int .i64 b.count, .int .i64 b.code, b.dv])] w (fun e W => ∃ v, e = .returned (.tuple #[v, .int .i64 0]) ∧ W.ownsRow w.heap.size 3 1 v (legsN b).length ((legsN b).map (Value.int .i64)) ∧ ∃ x, W = ext w x) := by
 have HV := hd0 (fun w hb => shapeValid_v b true h w hb)
 have HK := hd0 hb
 have hne : legsC b.code ≠ [] := by
  intro e
  have := (shape_facts h).1
  unfold dimsR at this
  rw [e] at this
  exact absurd this (by decide)
 have HL := hd0 (fun w => legs_b b.code hne w)
 have HD := hd0 (legs_dims h)
 obtain ⟨ad, cap, ev, k2, k3, k4⟩ := hb.dims
 have K4 := hd0 k4
 have hlen := (legs_way b.code).1
 have hpl : legsN b = (legsC b.code).map fun g => b.dims.getD g.1 0 := rfl
 obtain ⟨l, hl⟩ : ∃ l, legsC b.code = l := ⟨_, rfl⟩
 rw [hl] at HL HD hlen hpl
 rw [hpl]
 have HE := hd0 ev
 have hcap : (b.dims.length : Int) ≤ 9223372036854775807 := by omega
 clear hb h hne k4 hl hpl ev
 go_enter Tryz.func140, Tryz.ntmps140
 go_wp2_with fail
 go_at_call 189; refine (HV.out _ (HK.out.below gro)).mono ?_; rintro e w' ⟨rfl, x1, rfl⟩
 go_wp2_with fail
 go_at_call 196; refine (HL.out _).mono ?_; rintro e w' ⟨gl, rfl, hL, hgl, x2, rfl⟩
 go_wp2_with fail
 refine world_mask (fun W => LegsJ w b l gl 0 (.slice none 0 0) W) _ ⟨gro, Blk.ext (Blk.ext (Blk.new' rfl _ _) _) _, hL, World.ownsRow_nil _ _ _ _⟩ ?_
 clear hL hgl
 intro W1 J
 go_loopw [14, 4] (fun i v wr => ∃ k : Nat, k ≤ l.length ∧ i = .int .i64 k ∧ LegsJ w b l gl k v wr) (fun i _ _ => l.length - (intOf i).toNat)
 case atStart => exact ⟨0, by omega, rfl, J⟩
 case round =>
  clear J
  obtain ⟨k, hk, rfl, J⟩ := hrel
  have HJ := hd0 J
  obtain ⟨av, cv, rfl, hv1, hv2, _⟩ := own_shape J.row
  have hv3 : cv ≤ 9223372036854775807 := hv2
  by_cases hlt : k < l.length
  ·have q1 : (0 : Int) ≤ (k : Int) := by omega
   have q2 : (k : Int) < (l.length : Int) := by omega
   obtain ⟨e0, e1⟩ := legCells_get l k hlt
   have c0 := J.legs.cell (k * 2)
   have c1 := J.legs.cell (k * 2 + 1)
   rw [List.getElem?_toArray] at c0 c1
   rw [e0] at c0
   rw [e1] at c1
   have hd := HD.out _ (List.getElem_mem hlt)
   obtain ⟨leg, hleg⟩ : ∃ leg, l[k] = leg := ⟨_, rfl⟩
   rw [hleg] at c0 c1 hd
   obtain ⟨dim, way⟩ := leg
   simp only at c0 c1 hd
   obtain ⟨gd, od, ea, hdc⟩ := K4.out dim hd
   have hdc2 := cell_below' hdc J.below
   have hb4 : wr.cell? ⟨w.heap.size, 4, none⟩ = some b.dv := J.bar.cell 4
   rw [HE.out, ea] at hb4
   have hdv : b.dims[dim] = b.dims.getD dim 0 := List.getElem_eq_getD 0
   rw [hdv] at hdc2
   have q3 : (0 : Int) ≤ (dim : Int) := by omega
   have q4 : (dim : Int) < (b.dims.length : Int) := by omega
   obtain ⟨n, hn⟩ : ∃ n, b.dims.getD dim 0 = n := ⟨_, rfl⟩
   rw [hn] at hdc2
   have HN := hd0 (show n = b.dims.getD (l[k]).1 0 by rw [hleg]; exact hn.symm)
   clear J hdc hdv hn hleg e0 e1
   go_wp2_with (at_builtin; refine app_own_b rfl _ _ 48 rfl 3 (.int .i64 0) 1 8 Tryz.underlying48 info_int rfl (by decide) (w.heap.size) (.slice av k cv) (k) (((l.take k).map fun g => b.dims.getD g.1 0).map (Value.int .i64)) _ rfl ((HJ.out.row.alloc _).alloc _) _ 1 1 [.int .i64 (n)] rfl rfl (cells_new ?_ _ _ _ rfl) (by simp [Value.oneCell']) (by omega) (by decide) ?_ ?_; (first | rfl | simp [size_ext]); (have := HJ.out.below.size; simp only [World.size_alloc]; omega); intro v' w1 hown' hgrow; have HO2 := hd0 hown'; obtain ⟨a', c', rfl, _, hc2, -⟩ := own_shape hown'; have hc3 : c' ≤ 9223372036854775807 := hc2; have HGR := hd0 hgrow; clear hown' hgrow hc2)
   go_roundw
   case rel => exact ⟨k + 1, by omega, by go_num, HJ.out.step _ _ hlt HN.out HO2.out HGR.out⟩
   case measure => simp [intOf]; omega
  ·obtain rfl : k = l.length := by omega
   clear J
   go_wp2
   go_ret2
   exact ⟨_, rfl, by have := HJ.out.row; rw [List.take_length] at this; rw [List.length_map]; exact this, ext_of HJ.out.below⟩
end Go.Proofs.YtkjljneehgmmaaaGreat


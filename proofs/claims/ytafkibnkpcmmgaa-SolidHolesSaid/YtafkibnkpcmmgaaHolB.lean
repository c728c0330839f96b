/- The reference's copy of a solid. Printed by mkhol.py. -/
import Derived.Test.YtafkibnkpcmmgaaHolA
import Derived.Test.YtafkibnkpcmmgaaExtK
import Derived.Deep.DeepCutAuto
import Derived.Deep.CutBlock
namespace Go.Proofs.Ytafkibnkpcmmgaa
open Go.RowKit
set_option maxRecDepth 20000

/-- Two rows of one's own come back, apart from one another. -/
def RetCp (w : World) (l m : List Bx) (e : Ending) (W : World) : Prop :=
  ∃ u t, e = .returned (.agg #[u, t]) ∧ W.ownsRow w.heap.size 28 6 u l.length (boxCells l) ∧ W.ownsRow w.heap.size 28 6 t m.length (boxCells m) ∧ (∀ b, u.ownBlock = some b → t.ownBlock ≠ some b) ∧ ∃ x, W = ext w x
set_option maxRecDepth 100000 in
set_option maxHeartbeats 4000000 in
theorem refCopy_c (l m : List Bx) (u t : Value) (hll : l.length ≤ 1000) (hml : m.length ≤ 1000) (w : World) (hl : Boxes w u l) (hm : Boxes w t m) :
    Calls Try.prog 25 #[.agg #[u, t]] w (RetCp w l m) := by
  obtain ⟨ua, uc, rfl, -, -, hn1, hc1⟩ := hl.slice
  obtain ⟨ta, tc, rfl, -, -, hn2, hc2⟩ := hm.slice
  have HCl := Lib.hid hc1
  have HCm := Lib.hid hc2
  have HNl := Lib.hid hn1
  have HNm := Lib.hid hn2
  have HLN := Lib.hid (And.intro hll hml)
  clear hl hm hn1 hn2 hc1 hc2 hll hml
  go_enter Try.func25, Try.ntmps25
  go_upto_region 1 with fail
  refine world_mask (fun W => Below w.heap.size w W ∧ Blk W w.heap.size #[.slice ua l.length uc, .slice ta m.length tc] 24 ∧ Blk W (w.heap.size + 1) #[.slice none 0 0, .slice none 0 0] 24) _ ⟨by (repeat (first | exact grow_refl _ | refine grow_ext _ ?_ | refine grow_alloc _ ?_ | refine grow_drew ?_)), (Blk.new _ _ _).alloc _, Blk.new' (by simp only [World.size_alloc]) _ _⟩ ?_
  rintro W1 ⟨hb1, hb6, hb2⟩
  have HB1 := Lib.hid hb1
  have HB6 := Lib.hid hb6
  have HB2 := Lib.hid hb2
  clear hb1 hb6 hb2
  have hok : cpOk (⟨0, 3, l.length, boxCells l⟩ : Cq) (⟨4, 7, m.length, boxCells m⟩ : Cq) 8 9 := (show ([0, 3, 4, 7, 8, 9] : List Nat).Nodup by decide)
  have hpart : PartG [0, 3, 4, 7, 8, 9] (CpJ 28 24 6 W1 (w.heap.size + 1) #[.slice none 0 0, .slice none 0 0] (⟨0, 3, l.length, boxCells l⟩ : Cq) (⟨4, 7, m.length, boxCells m⟩ : Cq) 8 9) := (show PartG (Cq.ks (⟨0, 3, l.length, boxCells l⟩ : Cq) ++ Cq.ks (⟨4, 7, m.length, boxCells m⟩ : Cq) ++ [8, 9]) (CpJ 28 24 6 W1 (w.heap.size + 1) #[.slice none 0 0, .slice none 0 0] (⟨0, 3, l.length, boxCells l⟩ : Cq) (⟨4, 7, m.length, boxCells m⟩ : Cq) 8 9) from CpJ.part)
  have HPART := Lib.hid hpart
  clear hpart
  refine wp_region_G [undef, .pointer (some ⟨w.heap.size, 0, none⟩), .slice ua l.length uc, undef, undef, .pointer (some ⟨w.heap.size, 1, none⟩), .slice ta m.length tc, undef, undef, undef] [0, 3, 4, 7, 8, 9] (CpJ 28 24 6 W1 (w.heap.size + 1) #[.slice none 0 0, .slice none 0 0] (⟨0, 3, l.length, boxCells l⟩ : Cq) (⟨4, 7, m.length, boxCells m⟩ : Cq) 8 9) (by kernel_rfl) (by kernel_rfl) ?_ ?_ ?_
  · intro vs hlen
    refine CpJ.init (fun k hk => rep_false' ?_) HB2.out
    have hk' : k ∈ ([0, 3, 4, 7, 8, 9] : List Nat) := hk
    simp only [List.mem_cons, List.not_mem_nil, or_false] at hk'
    show k < 10
    omega
  · intro L vs W i hlen hJ hi
    obtain ⟨x0, vs0, rfl, hlen0⟩ := len_cons hlen
    obtain ⟨x1, vs1, rfl, hlen1⟩ := len_cons hlen0
    obtain ⟨x2, vs2, rfl, hlen2⟩ := len_cons hlen1
    obtain ⟨x3, vs3, rfl, hlen3⟩ := len_cons hlen2
    obtain ⟨x4, vs4, rfl, hlen4⟩ := len_cons hlen3
    obtain ⟨x5, vs5, rfl, hlen5⟩ := len_cons hlen4
    obtain ⟨x6, vs6, rfl, hlen6⟩ := len_cons hlen5
    obtain ⟨x7, vs7, rfl, hlen7⟩ := len_cons hlen6
    obtain ⟨x8, vs8, rfl, hlen8⟩ := len_cons hlen7
    obtain ⟨x9, vs9, rfl, hlen9⟩ := len_cons hlen8
    obtain rfl := len_nil hlen9
    clear hlen hlen0 hlen1 hlen2 hlen3 hlen4 hlen5 hlen6 hlen7 hlen8 hlen9
    obtain ⟨hun, o, ho, hd⟩ := mem_ready.1 hi
    have hin : i < 10 := by have := (Array.getElem?_eq_some_iff.1 ho).1; simpa using this
    refine wpOp_free (B := fun a' W' => ∃ x0 x1 x2 x3 x4 x5 x6 x7 x8 x9, a' = putAll _ [x0, x1, x2, x3, x4, x5, x6, x7, x8, x9] _ ∧ InvG _ _ _ [x0, x1, x2, x3, x4, x5, x6, x7, x8, x9] (L.setIfInBounds i true) W') (fun _ _ h => by obtain ⟨x0, x1, x2, x3, x4, x5, x6, x7, x8, x9, h1, h2⟩ := h; exact ⟨[x0, x1, x2, x3, x4, x5, x6, x7, x8, x9], rfl, h1, h2⟩) ?_
    intro K HK
    simp only [putAll_cons, putAll_nil, put_some, put_none, List.setIfInBounds_toArray, List.set_cons_succ, List.set_cons_zero] at HK ⊢
    have HOK := Lib.hid hok
    clear hok
    have c0 : W.cell? ⟨w.heap.size, 0, none⟩ = some (.slice ua l.length uc) := (HB6.out.of_block (hJ.part.frame _ HB6.out.lt (by omega))).cell 0
    have c1 : W.cell? ⟨w.heap.size, 1, none⟩ = some (.slice ta m.length tc) := (HB6.out.of_block (hJ.part.frame _ HB6.out.lt (by omega))).cell 1
    rcases (show i = 0 ∨ i = 1 ∨ i = 2 ∨ i = 3 ∨ i = 4 ∨ i = 5 ∨ i = 6 ∨ i = 7 ∨ i = 8 ∨ i = 9 by omega) with rfl | rfl | rfl | rfl | rfl | rfl | rfl | rfl | rfl | rfl
    · obtain rfl := Option.some.inj ho
      refine wpOp_of_list (by rfl) ?_
      go_wp2
      exact HK.out _ _ ⟨_, _, _, _, _, _, _, _, _, _, rfl, hJ.spec 0 (by decide) _ (hJ.part.stepB1 HOK.out (show 0 < 10 by decide) hun rfl rfl)⟩
    · obtain rfl := Option.some.inj ho
      refine wpOp_of_list (by rfl) ?_
      go_wp2
      exact HK.out _ _ ⟨_, _, _, _, _, _, _, _, _, _, rfl, hJ.up HPART.out 1 (by decide) (show 1 < 10 by decide) rfl⟩
    · obtain rfl := Option.some.inj ho
      have d1 : x1 = .pointer (some ⟨w.heap.size, 0, none⟩) := hJ.val 1 (show 1 < 10 by decide) (by decide) (getD_upJ (hd ⟨1, .data⟩ (by simp) (by rfl)))
      subst d1
      refine wpOp_of_list (by rfl) ?_
      go_wp2
      exact HK.out _ _ ⟨_, _, _, _, _, _, _, _, _, _, rfl, hJ.up HPART.out 2 (by decide) (show 2 < 10 by decide) rfl⟩
    · obtain rfl := Option.some.inj ho
      have d2 : x2 = .slice ua l.length uc := hJ.val 2 (show 2 < 10 by decide) (by decide) (getD_upJ (hd ⟨2, .data⟩ (by simp) (by rfl)))
      subst d2
      have hrow := hJ.part.emp1 hun (getD_upJ (hd ⟨0, .data⟩ (by simp) (by rfl)))
      refine wpOp_of_list (by rfl) ?_
      refine app_any2 rfl _ _ 22 rfl 28 (.agg #[.int .i64 0, .int .i64 0, .int .i64 0, .int .i64 0, .int .i64 0, .int .i64 0]) 6 48 Try.underlying22 info_box' rfl (by decide) W1.heap.size x0 0 [] _ rfl hrow ua l.length uc (boxCells l) rfl (boxCells_length l) HNl.out (fun a' ha j q hj => hJ.part.old (Nat.le_succ _) HB1.out (HCl.out a' ha j q hj)) (boxCells_one _) (by have := HLN.out; omega) (by decide) hJ.part.size ?_
      intro u' w' hown hg hw
      go_wp2
      exact HK.out _ _ ⟨_, _, _, _, _, _, _, _, _, _, rfl, hJ.spec 3 (by decide) _ (hJ.part.stepA1 HOK.out (show 3 < 10 by decide) hun (getD_upJ (hd ⟨0, .data⟩ (by simp) (by rfl))) hown hg hw)⟩
    · obtain rfl := Option.some.inj ho
      refine wpOp_of_list (by rfl) ?_
      go_wp2
      exact HK.out _ _ ⟨_, _, _, _, _, _, _, _, _, _, rfl, hJ.spec 4 (by decide) _ (hJ.part.stepB2 HOK.out (show 4 < 10 by decide) hun rfl rfl)⟩
    · obtain rfl := Option.some.inj ho
      refine wpOp_of_list (by rfl) ?_
      go_wp2
      exact HK.out _ _ ⟨_, _, _, _, _, _, _, _, _, _, rfl, hJ.up HPART.out 5 (by decide) (show 5 < 10 by decide) rfl⟩
    · obtain rfl := Option.some.inj ho
      have d5 : x5 = .pointer (some ⟨w.heap.size, 1, none⟩) := hJ.val 5 (show 5 < 10 by decide) (by decide) (getD_upJ (hd ⟨5, .data⟩ (by simp) (by rfl)))
      subst d5
      refine wpOp_of_list (by rfl) ?_
      go_wp2
      exact HK.out _ _ ⟨_, _, _, _, _, _, _, _, _, _, rfl, hJ.up HPART.out 6 (by decide) (show 6 < 10 by decide) rfl⟩
    · obtain rfl := Option.some.inj ho
      have d6 : x6 = .slice ta m.length tc := hJ.val 6 (show 6 < 10 by decide) (by decide) (getD_upJ (hd ⟨6, .data⟩ (by simp) (by rfl)))
      subst d6
      have hrow := hJ.part.emp2 hun (getD_upJ (hd ⟨4, .data⟩ (by simp) (by rfl)))
      refine wpOp_of_list (by rfl) ?_
      refine app_any2 rfl _ _ 22 rfl 28 (.agg #[.int .i64 0, .int .i64 0, .int .i64 0, .int .i64 0, .int .i64 0, .int .i64 0]) 6 48 Try.underlying22 info_box' rfl (by decide) W1.heap.size x4 0 [] _ rfl hrow ta m.length tc (boxCells m) rfl (boxCells_length m) HNm.out (fun a' ha j q hj => hJ.part.old (Nat.le_succ _) HB1.out (HCm.out a' ha j q hj)) (boxCells_one _) (by have := HLN.out; omega) (by decide) hJ.part.size ?_
      intro u' w' hown hg hw
      go_wp2
      exact HK.out _ _ ⟨_, _, _, _, _, _, _, _, _, _, rfl, hJ.spec 7 (by decide) _ (hJ.part.stepA2 HOK.out (show 7 < 10 by decide) hun (getD_upJ (hd ⟨4, .data⟩ (by simp) (by rfl))) hown hg hw)⟩
    · obtain rfl := Option.some.inj ho
      obtain ⟨qa, qc, hx3, -, -, -⟩ := own_shape (hJ.part.r1.full (getD_upJ (hd ⟨3, .data⟩ (by simp) (by rfl))))
      obtain ⟨qa', qc', hx7, -, -, -⟩ := own_shape (hJ.part.r2.full (getD_upJ (hd ⟨7, .data⟩ (by simp) (by rfl))))
      have hx3' : x3 = .slice qa l.length qc := hx3
      have hx7' : x7 = .slice qa' m.length qc' := hx7
      have hs3 := hJ.part.stepE HOK.out (show 8 < 10 by decide) hun (getD_upJ (hd ⟨3, .data⟩ (by simp) (by rfl))) (getD_upJ (hd ⟨7, .data⟩ (by simp) (by rfl))) rfl
      have HS3 := Lib.hid hs3
      clear hs3 hx3 hx7
      subst hx3' hx7'
      refine wpOp_of_list (by rfl) ?_
      go_wp2
      exact HK.out _ _ ⟨_, _, _, _, _, _, _, _, _, _, rfl, hJ.spec 8 (by decide) _ (HS3.out)⟩
    · obtain rfl := Option.some.inj ho
      obtain ⟨b1, b2, b3⟩ := hJ.part.bE (getD_upJ (hd ⟨8, .data⟩ (by simp) (by rfl)))
      have hx8 : x8 = .agg #[x3, x7] := b3
      obtain ⟨qa, qc, hx3, -, -, -⟩ := own_shape (hJ.part.r1.full b1)
      obtain ⟨qa', qc', hx7, -, -, -⟩ := own_shape (hJ.part.r2.full b2)
      have hx3' : x3 = .slice qa l.length qc := hx3
      have hx7' : x7 = .slice qa' m.length qc' := hx7
      have hb := hJ.part.blk0 hun
      have HB0 := Lib.hid hb
      have qf0 : W.frozen? ⟨w.heap.size + 1, 0, none⟩ = false := hb.frozen 0
      have qf1 : W.frozen? ⟨w.heap.size + 1, 1, none⟩ = false := hb.frozen 1
      have qg0 : W.cell? ⟨w.heap.size + 1, 0, none⟩ = some (.slice none 0 0) := hb.cell 0
      have qg1 : W.cell? ⟨w.heap.size + 1, 1, none⟩ = some (.slice none 0 0) := hb.cell 1
      have hst := hJ.part.stepS HOK.out (getD_upJ (hd ⟨8, .data⟩ (by simp) (by rfl))) (W' := (W.setCell ⟨w.heap.size + 1, 0, none⟩ x3).setCell ⟨w.heap.size + 1, 1, none⟩ x7) (fun k hk => by rw [Below.heap_setCell _ _ _ _ hk, Below.heap_setCell _ _ _ _ hk]) (by simp [World.setCell]) rfl rfl rfl ((hb.set 0 _).set 1 _)
      have HST := Lib.hid hst
      clear hst hx3 hx7 b1 b2 b3 hb
      subst hx8 hx3' hx7'
      refine wpOp_of_list (by rfl) ?_
      go_wp2
      exact HK.out _ _ ⟨_, _, _, _, _, _, _, _, _, _, rfl, hJ.spec0 9 (by decide) HST.out⟩
  · intro vs L W hlen hJ hall
    obtain ⟨x0, vs0, rfl, hlen0⟩ := len_cons hlen
    obtain ⟨x1, vs1, rfl, hlen1⟩ := len_cons hlen0
    obtain ⟨x2, vs2, rfl, hlen2⟩ := len_cons hlen1
    obtain ⟨x3, vs3, rfl, hlen3⟩ := len_cons hlen2
    obtain ⟨x4, vs4, rfl, hlen4⟩ := len_cons hlen3
    obtain ⟨x5, vs5, rfl, hlen5⟩ := len_cons hlen4
    obtain ⟨x6, vs6, rfl, hlen6⟩ := len_cons hlen5
    obtain ⟨x7, vs7, rfl, hlen7⟩ := len_cons hlen6
    obtain ⟨x8, vs8, rfl, hlen8⟩ := len_cons hlen7
    obtain ⟨x9, vs9, rfl, hlen9⟩ := len_cons hlen8
    obtain rfl := len_nil hlen9
    clear hlen hlen0 hlen1 hlen2 hlen3 hlen4 hlen5 hlen6 hlen7 hlen8 hlen9
    have d1 : x1 = .pointer (some ⟨w.heap.size, 0, none⟩) := hJ.val 1 (show 1 < 10 by decide) (by decide) (hall 1 (of_decide_eq_true (by kernel_rfl)))
    have d2 : x2 = .slice ua l.length uc := hJ.val 2 (show 2 < 10 by decide) (by decide) (hall 2 (of_decide_eq_true (by kernel_rfl)))
    have d5 : x5 = .pointer (some ⟨w.heap.size, 1, none⟩) := hJ.val 5 (show 5 < 10 by decide) (by decide) (hall 5 (of_decide_eq_true (by kernel_rfl)))
    have d6 : x6 = .slice ta m.length tc := hJ.val 6 (show 6 < 10 by decide) (by decide) (hall 6 (of_decide_eq_true (by kernel_rfl)))
    subst d1 d2 d5 d6
    have hr1 := hJ.part.r1.full (hall 3 (of_decide_eq_true (by kernel_rfl)))
    have hr2 := hJ.part.r2.full (hall 7 (of_decide_eq_true (by kernel_rfl)))
    have hb := hJ.part.blk1 (hall 9 (of_decide_eq_true (by kernel_rfl)))
    have hsep := hJ.part.sep
    unfold Cq.cur at hsep
    rw [if_pos (hall 3 (of_decide_eq_true (by kernel_rfl))), if_pos (hall 7 (of_decide_eq_true (by kernel_rfl)))] at hsep
    have hbel : Below w.heap.size w W := ⟨hJ.part.os.trans HB1.out.os, hJ.part.tape.trans HB1.out.tape, hJ.part.output.trans HB1.out.output, Nat.le_trans HB1.out.size hJ.part.size, fun k hk => by rw [hJ.part.frame k (Nat.lt_of_lt_of_le hk HB1.out.size) (by omega)]; exact HB1.out.block k hk⟩
    have HR := Lib.hid (And.intro hr1 (And.intro hr2 (And.intro hsep hbel)))
    obtain ⟨qa, qc, hx3, -, -, -⟩ := own_shape hr1
    obtain ⟨qa', qc', hx7, -, -, -⟩ := own_shape hr2
    have hx3' : x3 = .slice qa l.length qc := hx3
    have hx7' : x7 = .slice qa' m.length qc' := hx7
    have qg0 : W.cell? ⟨w.heap.size + 1, 0, none⟩ = some x3 := hb.cell 0
    have qg1 : W.cell? ⟨w.heap.size + 1, 1, none⟩ = some x7 := hb.cell 1
    clear hr1 hr2 hb hsep hbel hJ hall hx3 hx7 hok
    subst hx3' hx7'
    simp only [putAll_cons, putAll_nil, put_some, put_none, List.setIfInBounds_toArray, List.set_cons_succ, List.set_cons_zero]
    go_wp2
    refine bodyPost_ret (v := .agg #[.slice qa l.length qc, .slice qa' m.length qc']) (by simp [results, Try.results25, go_sem, qg0, qg1]) rfl ?_
    exact ⟨_, _, rfl, own_mono HR.out.1 HB1.out.size, own_mono HR.out.2.1 HB1.out.size, HR.out.2.2.1, ext_of HR.out.2.2.2⟩

end Go.Proofs.Ytafkibnkpcmmgaa

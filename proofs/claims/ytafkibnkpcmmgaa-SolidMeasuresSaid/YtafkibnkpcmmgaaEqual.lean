/- slices.Equal of spans, and of boxes. -/
import Derived.Test.YtafkibnkpcmmgaaBoxG
import Derived.Test.YtafkibnkpcmmgaaAwake0
import Derived.Laws.StructEq
namespace Go.Proofs.Ytafkibnkpcmmgaa
open Go.RowKit

theorem Bx.eq_iff (a b : Bx) : (a.lx = b.lx ∧ a.ly = b.ly ∧ a.lz = b.lz ∧ a.hx = b.hx ∧ a.hy = b.hy ∧ a.hz = b.hz) ↔ a = b := by
  cases a; cases b; simp
instance instDecBx : DecidableEq Bx := fun a b => decidable_of_iff _ (Bx.eq_iff a b)

theorem take_eq_succ {α : Type} {P Q : List α} {k : Nat} (hp : k < P.length) (hq : k < Q.length) (h : P.take k = Q.take k) (he : P[k] = Q[k]) : P.take (k + 1) = Q.take (k + 1) := by
  rw [List.take_succ_eq_append_getElem hp, List.take_succ_eq_append_getElem hq, h, he]
theorem ne_of_get {α : Type} [DecidableEq α] {P Q : List α} {k : Nat} (hp : k < P.length) (hq : k < Q.length) (h : P[k] ≠ Q[k]) : decide (P = Q) = false := by
  rw [decide_eq_false_iff_not]
  rintro rfl
  exact h rfl

set_option maxRecDepth 100000 in
set_option maxHeartbeats 4000000 in
theorem equalBoxes_c (P Q : List Bx) (v v' : Value) (w : World) (h1 : Boxes w v P) (h2 : Boxes w v' Q) :
    Calls Try.prog 39 #[v, v'] w (Ret w (.bool (decide (P = Q)))) := by
  obtain ⟨a, cap, rfl, hc1, hc2, hp⟩ := h1
  obtain ⟨b, cap', rfl, hd1, hd2, hq⟩ := h2
  have HP := Lib.hid hp
  have HQ := Lib.hid hq
  clear hp hq
  by_cases hlen : P.length = Q.length
  · have hb : ((P.length : Int) == (Q.length : Int)) = true := by simp [hlen]
    have hb' : ((P.length : Int) != (Q.length : Int)) = false := by simp [hlen]
    have HL := Lib.hid hlen
    clear hlen
    go_enter Try.func39, Try.ntmps39
    go_wp2_with fail
    go_loopw [13] (fun i wr => ∃ k : Nat, k ≤ P.length ∧ i = .int .i64 k ∧ (∃ x, wr = ext w x) ∧ P.take k = Q.take k) (fun i _ => P.length - (intOf i).toNat)
    case atStart => exact ⟨0, Nat.zero_le _, rfl, ext_of (by (repeat (first | exact grow_refl _ | refine grow_ext _ ?_ | refine grow_alloc _ ?_ | refine grow_drew ?_))), by simp⟩
    case round =>
      obtain ⟨k, hk, rfl, ⟨x, rfl⟩, hT⟩ := hrel
      have HT := Lib.hid hT
      clear hT
      by_cases hlt : k < P.length
      · have hlq : k < Q.length := by have := HL.out; omega
        obtain ⟨g, og, rfl, c0, c1, c2, c3, c4, c5⟩ := HP.out k hlt
        obtain ⟨g', og', rfl, d0, d1, d2, d3, d4, d5⟩ := HQ.out k hlq
        have i1 : (0 : Int) ≤ (k : Int) := by omega
        have i2 : (k : Int) < (P.length : Int) := by omega
        have i3 : (k : Int) < (Q.length : Int) := by omega
        obtain ⟨p, hp⟩ : ∃ p, p = P[k] := ⟨_, rfl⟩
        obtain ⟨q, hq⟩ : ∃ q, q = Q[k] := ⟨_, rfl⟩
        rw [← hp] at c0 c1 c2 c3 c4 c5
        rw [← hq] at d0 d1 d2 d3 d4 d5
        have HPK := Lib.hid hp
        have HQK := Lib.hid hq
        clear hp hq
        obtain ⟨p0, p1, p2, p3, p4, p5⟩ := p
        obtain ⟨q0, q1, q2, q3, q4, q5⟩ := q
        dsimp only at c0 c1 c2 c3 c4 c5 d0 d1 d2 d3 d4 d5
        cases b0 : p0 == q0
        · have HR := Lib.hid (ne_of_get (P := P) (Q := Q) hlt hlq (by rw [← HPK.out, ← HQK.out]; intro e; simp only [Bx.mk.injEq] at e; simp_all))
          go_wp2_with fail
          refine wp_region_grows (by kernel_rfl) (by kernel_rfl) ?_
          repeat (go_big_quiet_step (fail))
          refine wpQuiet_nil ?_; rintro _ ⟨xq, rfl⟩
          go_wp2
          go_ret
          rw [HR.out]
          exact Ret.of (by (repeat (first | exact grow_refl _ | refine grow_ext _ ?_ | refine grow_alloc _ ?_ | refine grow_drew ?_)))
        · cases b1 : p1 == q1
          · have HR := Lib.hid (ne_of_get (P := P) (Q := Q) hlt hlq (by rw [← HPK.out, ← HQK.out]; intro e; simp only [Bx.mk.injEq] at e; simp_all))
            go_wp2_with fail
            refine wp_region_grows (by kernel_rfl) (by kernel_rfl) ?_
            repeat (go_big_quiet_step (fail))
            refine wpQuiet_nil ?_; rintro _ ⟨xq, rfl⟩
            go_wp2
            go_ret
            rw [HR.out]
            exact Ret.of (by (repeat (first | exact grow_refl _ | refine grow_ext _ ?_ | refine grow_alloc _ ?_ | refine grow_drew ?_)))
          · cases b2 : p2 == q2
            · have HR := Lib.hid (ne_of_get (P := P) (Q := Q) hlt hlq (by rw [← HPK.out, ← HQK.out]; intro e; simp only [Bx.mk.injEq] at e; simp_all))
              go_wp2_with fail
              refine wp_region_grows (by kernel_rfl) (by kernel_rfl) ?_
              repeat (go_big_quiet_step (fail))
              refine wpQuiet_nil ?_; rintro _ ⟨xq, rfl⟩
              go_wp2
              go_ret
              rw [HR.out]
              exact Ret.of (by (repeat (first | exact grow_refl _ | refine grow_ext _ ?_ | refine grow_alloc _ ?_ | refine grow_drew ?_)))
            · cases b3 : p3 == q3
              · have HR := Lib.hid (ne_of_get (P := P) (Q := Q) hlt hlq (by rw [← HPK.out, ← HQK.out]; intro e; simp only [Bx.mk.injEq] at e; simp_all))
                go_wp2_with fail
                refine wp_region_grows (by kernel_rfl) (by kernel_rfl) ?_
                repeat (go_big_quiet_step (fail))
                refine wpQuiet_nil ?_; rintro _ ⟨xq, rfl⟩
                go_wp2
                go_ret
                rw [HR.out]
                exact Ret.of (by (repeat (first | exact grow_refl _ | refine grow_ext _ ?_ | refine grow_alloc _ ?_ | refine grow_drew ?_)))
              · cases b4 : p4 == q4
                · have HR := Lib.hid (ne_of_get (P := P) (Q := Q) hlt hlq (by rw [← HPK.out, ← HQK.out]; intro e; simp only [Bx.mk.injEq] at e; simp_all))
                  go_wp2_with fail
                  refine wp_region_grows (by kernel_rfl) (by kernel_rfl) ?_
                  repeat (go_big_quiet_step (fail))
                  refine wpQuiet_nil ?_; rintro _ ⟨xq, rfl⟩
                  go_wp2
                  go_ret
                  rw [HR.out]
                  exact Ret.of (by (repeat (first | exact grow_refl _ | refine grow_ext _ ?_ | refine grow_alloc _ ?_ | refine grow_drew ?_)))
                · cases b5 : p5 == q5
                  · have HR := Lib.hid (ne_of_get (P := P) (Q := Q) hlt hlq (by rw [← HPK.out, ← HQK.out]; intro e; simp only [Bx.mk.injEq] at e; simp_all))
                    go_wp2_with fail
                    refine wp_region_grows (by kernel_rfl) (by kernel_rfl) ?_
                    repeat (go_big_quiet_step (fail))
                    refine wpQuiet_nil ?_; rintro _ ⟨xq, rfl⟩
                    go_wp2
                    go_ret
                    rw [HR.out]
                    exact Ret.of (by (repeat (first | exact grow_refl _ | refine grow_ext _ ?_ | refine grow_alloc _ ?_ | refine grow_drew ?_)))
                  · have HTN := Lib.hid (take_eq_succ hlt hlq HT.out (by rw [← HPK.out, ← HQK.out]; simp_all))
                    go_wp2_with fail
                    refine wp_region_grows (by kernel_rfl) (by kernel_rfl) ?_
                    repeat (go_big_quiet_step (fail))
                    refine wpQuiet_nil ?_; rintro _ ⟨xq, rfl⟩
                    go_wp2
                    go_roundw
                    case rel => exact ⟨k + 1, by omega, by go_num, ext_of (by (repeat (first | exact grow_refl _ | refine grow_ext _ ?_ | refine grow_alloc _ ?_ | refine grow_drew ?_))), HTN.out⟩
                    case measure => simp [intOf]; omega
      · obtain rfl : k = P.length := by omega
        have HR := Lib.hid (show decide (P = Q) = true by have := HT.out; rw [List.take_length, HL.out, List.take_length] at this; simp [this])
        go_wp2
        go_ret
        rw [HR.out]
        exact Ret.of (by (repeat (first | exact grow_refl _ | refine grow_ext _ ?_ | refine grow_alloc _ ?_ | refine grow_drew ?_)))
  · have hb : ((P.length : Int) == (Q.length : Int)) = false := beq_eq_false_iff_ne.2 (by omega)
    have HR := Lib.hid (show decide (P = Q) = false by simp; intro e; rw [e] at hlen; exact hlen rfl)
    clear hlen
    go_enter Try.func39, Try.ntmps39
    go_wp2
    go_ret
    rw [HR.out]
    exact Ret.of (by (repeat (first | exact grow_refl _ | refine grow_ext _ ?_ | refine grow_alloc _ ?_ | refine grow_drew ?_)))

theorem equalBoxes_same (P : List Bx) (v v' : Value) (w : World) (h1 : Boxes w v P) (h2 : Boxes w v' P) :
    Calls Try.prog 39 #[v, v'] w (Ret w (.bool true)) := by
  have := equalBoxes_c P P v v' w h1 h2
  rwa [decide_eq_true (rfl : P = P)] at this

end Go.Proofs.Ytafkibnkpcmmgaa

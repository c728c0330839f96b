/- The reference's fractions of small numbers that are not negative: stirrupref02.Half, Less, Minus, Plus, Gcd, Div, Made, Make. -/
import Derived.Test.YtofjopdcbmaijaaGreatGapK4
import Derived.Test.YtofjopdcbmaijaaGreatBaseK
import Derived.Test.YtofjopdcbmaijaaGreatExtK
import Derived.Laws.Bits64b
import Derived.Deep.DeepCutAuto
import Derived.Deep.CutBlock
import Derived.RegionTactic
import Derived.Deep.RegionWith
namespace Go.Proofs.YtofjopdcbmaijaaGreat
open Go.RowKit
set_option maxRecDepth 20000

/-- A magnitude of one part. -/
def uV (n : Nat) : Value := .agg #[.int .u64 0, .int .u64 n]

set_option maxHeartbeats 1000000 in
theorem half_c (n : Nat) (hn : n < 18446744073709551616) (w : World) : Calls Tryz.prog 136 #[.agg #[.int .u64 0, .int .u64 n]] w (Ret w (.agg #[.int .u64 0, .int .u64 ((n / 2 : Nat) : Int)])) := by
  rw [show ((n / 2 : Nat) : Int) = (n : Int) / 2 by omega]
  go_enter Tryz.func136, Tryz.ntmps136
  go_wp2
  refine bodyPost_ret (v := .agg #[.int .u64 0, .int .u64 ((n : Int) / 2)]) (by simp [results, Tryz.results136, go_sem]) rfl ?_
  exact Ret.of (by (repeat (first | exact grow_refl _ | refine grow_ext _ ?_ | refine grow_alloc _ ?_ | refine grow_drew ?_)))

set_option maxHeartbeats 1000000 in
theorem less_c (a b : Nat) (r : Bool) (h : decide (a < b) = r) (w : World) : Calls Tryz.prog 137 #[.agg #[.int .u64 0, .int .u64 a], .agg #[.int .u64 0, .int .u64 b]] w (Ret w (.bool r)) := by
  cases r
  all_goals
    go_enter Tryz.func137, Tryz.ntmps137
    go_wp2
    go_ret
    exact Ret.of (by (repeat (first | exact grow_refl _ | refine grow_ext _ ?_ | refine grow_alloc _ ?_ | refine grow_drew ?_)))

set_option maxHeartbeats 1000000 in
theorem minus_c (a b : Nat) (hab : b ≤ a) (ha : a < 18446744073709551616) (w : World) : Calls Tryz.prog 138 #[.agg #[.int .u64 0, .int .u64 a], .agg #[.int .u64 0, .int .u64 b]] w (Ret w (.agg #[.int .u64 0, .int .u64 ((a - b : Nat) : Int)])) := by
  have d1 : decide ((a : Int) < (b : Int)) = false := by simp; omega
  have hw : IntKind.u64.wrap ((a : Int) - (b : Int)) = ((a - b : Nat) : Int) := by rw [IntKind.wrap_u64]; omega
  go_enter Tryz.func138, Tryz.ntmps138
  go_wp2
  refine bodyPost_ret (v := .agg #[.int .u64 0, .int .u64 ((a - b : Nat) : Int)]) (by simp [results, Tryz.results138, go_sem]) rfl ?_
  exact Ret.of (by (repeat (first | exact grow_refl _ | refine grow_ext _ ?_ | refine grow_alloc _ ?_ | refine grow_drew ?_)))

set_option maxHeartbeats 1000000 in
theorem plusU_c (a b : Nat) (hab : a + b < 18446744073709551616) (w : World) : Calls Tryz.prog 139 #[.agg #[.int .u64 0, .int .u64 a], .agg #[.int .u64 0, .int .u64 b]] w (Ret w (.agg #[.int .u64 0, .int .u64 ((a + b : Nat) : Int)])) := by
  have d1 : decide (((a + b : Nat) : Int) < (a : Int)) = false := by simp; omega
  have hw : IntKind.u64.wrap ((a : Int) + (b : Int)) = ((a + b : Nat) : Int) := by rw [IntKind.wrap_u64]; omega
  go_enter Tryz.func139, Tryz.ntmps139
  go_wp2
  refine bodyPost_ret (v := .agg #[.int .u64 0, .int .u64 ((a + b : Nat) : Int)]) (by simp [results, Tryz.results139, go_sem]) rfl ?_
  exact Ret.of (by (repeat (first | exact grow_refl _ | refine grow_ext _ ?_ | refine grow_alloc _ ?_ | refine grow_drew ?_)))

/-- What lies in a cell, as a natural number. -/
def natAt (w : World) (a : Addr) : Nat := match w.cell? a with | some (.int _ n) => n.toNat | _ => 0
theorem natAt_of {w : World} {a : Addr} {k : IntKind} {n : Nat} (h : w.cell? a = some (.int k n)) : natAt w a = n := by unfold natAt; rw [h]; rfl

/-- What holds in the loops of the reference's Gcd: two magnitudes, in two blocks. -/
structure GcdJ (w : World) (a b : Nat) (wr : World) : Prop where
  below : Below w.heap.size w wr
  ba : Blk wr w.heap.size #[.int .u64 0, .int .u64 a] 106
  bb : Blk wr (w.heap.size + 1) #[.int .u64 0, .int .u64 b] 106
  bc : Blk wr (w.heap.size + 1 + 1) #[.int .u64 0, .int .u64 0] 106

theorem GcdJ.nat {w : World} {a b : Nat} {wr : World} (h : GcdJ w a b wr) : natAt wr ⟨w.heap.size, 1, none⟩ = a ∧ natAt wr ⟨w.heap.size + 1, 1, none⟩ = b := ⟨natAt_of (h.ba.cell 1), natAt_of (h.bb.cell 1)⟩
theorem GcdJ.ext {w : World} {a b : Nat} {wr : World} (h : GcdJ w a b wr) (x : World) : GcdJ w a b (ext wr x) := ⟨grow_ext x h.below, h.ba.ext x, h.bb.ext x, h.bc.ext x⟩
theorem GcdJ.setA {w : World} {a b : Nat} {wr : World} (h : GcdJ w a b wr) (n : Nat) : GcdJ w n b ((wr.setCell ⟨w.heap.size, 0, none⟩ (.int .u64 0)).setCell ⟨w.heap.size, 1, none⟩ (.int .u64 n)) :=
  ⟨(h.below.setCell (p := ⟨w.heap.size, 0, none⟩) (Nat.le_refl _) _).setCell (p := ⟨w.heap.size, 1, none⟩) (Nat.le_refl _) _, (h.ba.set 0 _).set 1 _,
    (h.bb.other (a := ⟨w.heap.size, 0, none⟩) (show w.heap.size + 1 ≠ w.heap.size by omega) _).other (a := ⟨w.heap.size, 1, none⟩) (show w.heap.size + 1 ≠ w.heap.size by omega) _,
    (h.bc.other (a := ⟨w.heap.size, 0, none⟩) (show w.heap.size + 1 + 1 ≠ w.heap.size by omega) _).other (a := ⟨w.heap.size, 1, none⟩) (show w.heap.size + 1 + 1 ≠ w.heap.size by omega) _⟩
theorem GcdJ.setB {w : World} {a b : Nat} {wr : World} (h : GcdJ w a b wr) (n : Nat) : GcdJ w a n ((wr.setCell ⟨w.heap.size + 1, 0, none⟩ (.int .u64 0)).setCell ⟨w.heap.size + 1, 1, none⟩ (.int .u64 n)) :=
  ⟨(h.below.setCell (p := ⟨w.heap.size + 1, 0, none⟩) (show w.heap.size ≤ w.heap.size + 1 by omega) _).setCell (p := ⟨w.heap.size + 1, 1, none⟩) (show w.heap.size ≤ w.heap.size + 1 by omega) _,
    (h.ba.other (a := ⟨w.heap.size + 1, 0, none⟩) (show w.heap.size ≠ w.heap.size + 1 by omega) _).other (a := ⟨w.heap.size + 1, 1, none⟩) (show w.heap.size ≠ w.heap.size + 1 by omega) _, (h.bb.set 0 _).set 1 _,
    (h.bc.other (a := ⟨w.heap.size + 1, 0, none⟩) (show w.heap.size + 1 + 1 ≠ w.heap.size + 1 by omega) _).other (a := ⟨w.heap.size + 1, 1, none⟩) (show w.heap.size + 1 + 1 ≠ w.heap.size + 1 by omega) _⟩

theorem lt_eq {a b c : Nat} (h : a = b) (h2 : b < c) : a < c := by omega
theorem and_one {a : Nat} (h : a < 18446744073709551616) : bits .and .u64 (a : Int) 1 = ((a % 2 : Nat) : Int) := by
  have h1 := bits_and_u64_nat a 1 h (by omega)
  rw [Nat.and_one_is_mod] at h1
  exact h1
theorem gcd_both {a b : Nat} (ha : a % 2 = 0) (hb : b % 2 = 0) : Nat.gcd a b = 2 * Nat.gcd (a / 2) (b / 2) := by
  obtain ⟨x, rfl⟩ : ∃ x, a = 2 * x := ⟨a / 2, by omega⟩
  obtain ⟨y, rfl⟩ : ∃ y, b = 2 * y := ⟨b / 2, by omega⟩
  rw [Nat.gcd_mul_left, Nat.mul_div_cancel_left _ (by omega), Nat.mul_div_cancel_left _ (by omega)]
theorem gcd_left {a b : Nat} (ha : a % 2 = 0) (hb : b % 2 = 1) : Nat.gcd (a / 2) b = Nat.gcd a b := by
  obtain ⟨x, rfl⟩ : ∃ x, a = 2 * x := ⟨a / 2, by omega⟩
  rw [Nat.mul_div_cancel_left _ (by omega)]
  have : Nat.Coprime 2 b := by rw [Nat.Coprime, Nat.gcd_rec, hb]; decide
  exact (Nat.Coprime.gcd_mul_left_cancel x this).symm
theorem gcd_right {a b : Nat} (ha : a % 2 = 1) (hb : b % 2 = 0) : Nat.gcd a (b / 2) = Nat.gcd a b := by
  rw [Nat.gcd_comm a, gcd_left hb ha, Nat.gcd_comm]
theorem gcd_less {a b : Nat} (h : b ≤ a) : Nat.gcd (a - b) b = Nat.gcd a b := Nat.gcd_sub_self_left h

set_option maxRecDepth 100000 in
set_option maxHeartbeats 8000000 in
theorem gcdRef_c (a b : Nat) (ha : a < 9223372036854775808) (hb : b < 9223372036854775808) (hb0 : 0 < b) (w : World) :
    Calls Tryz.prog 96 #[.agg #[.int .u64 0, .int .u64 a], .agg #[.int .u64 0, .int .u64 b]] w (Ret w (.agg #[.int .u64 0, .int .u64 (Nat.gcd a b : Nat)])) := by
  by_cases h0 : a = 0
  · subst h0
    rw [Nat.gcd_zero_left]
    go_enter Tryz.func96, Tryz.ntmps96
    go_wp2
    refine bodyPost_ret (v := .agg #[.int .u64 0, .int .u64 b]) (by simp [results, Tryz.results96, go_sem]) rfl ?_
    exact Ret.of (by (repeat (first | exact grow_refl _ | refine grow_ext _ ?_ | refine grow_alloc _ ?_ | refine grow_drew ?_)))
  have d0 : ((a : Int) == 0) = false := by simp; omega
  obtain ⟨G, hG⟩ : ∃ G, Nat.gcd a b = G := ⟨_, rfl⟩
  have hGb : G ≤ b := by rw [← hG]; exact Nat.gcd_le_right a hb0
  rw [hG]
  have HG := Lib.hid hG
  clear hG
  go_enter Tryz.func96, Tryz.ntmps96
  go_wp2_with fail
  refine world_mask (fun W => GcdJ w a b W) _ ⟨by (repeat (first | exact grow_refl _ | refine grow_ext _ ?_ | refine grow_alloc _ ?_ | refine grow_drew ?_)), ((Blk.new' rfl _ _).alloc _).alloc _, (Blk.new' (by simp) _ _).alloc _, Blk.new' (by simp) _ _⟩ ?_
  intro W1 hj
  have HJ0 := Lib.hid hj
  clear hj d0
  go_loopw [5] (fun t wr => ∃ p q k : Nat, t = .int .i64 k ∧ GcdJ w p q wr ∧ (0 < p ∧ 0 < q) ∧ (p < 9223372036854775808 ∧ q < 9223372036854775808) ∧ 2 ^ k * Nat.gcd p q = G ∧ 2 ^ k * p = a) (fun _ wr => natAt wr ⟨w.heap.size, 1, none⟩)
  case atStart => exact ⟨a, b, 0, rfl, HJ0.out, ⟨by omega, hb0⟩, ⟨ha, hb⟩, by rw [Nat.pow_zero, Nat.one_mul, HG.out], by rw [Nat.pow_zero, Nat.one_mul]⟩
  case round =>
    obtain ⟨wa, rfl⟩ : ∃ W : World, W = wr := ⟨_, rfl⟩
    obtain ⟨p, q, k, rfl, hJ, ⟨hp0, hq0⟩, ⟨hp1, hq1⟩, hgk, hka⟩ := hrel
    have HJ := Lib.hid hJ
    have c0 : wa.cell? ⟨w.heap.size, 0, none⟩ = some (.int .u64 0) := hJ.ba.cell 0
    have c1 : wa.cell? ⟨w.heap.size, 1, none⟩ = some (.int .u64 p) := hJ.ba.cell 1
    have d0 : wa.cell? ⟨w.heap.size + 1, 0, none⟩ = some (.int .u64 0) := hJ.bb.cell 0
    have d1 : wa.cell? ⟨w.heap.size + 1, 1, none⟩ = some (.int .u64 q) := hJ.bb.cell 1
    have e0 : wa.cell? ⟨w.heap.size + 1 + 1, 0, none⟩ = some (.int .u64 0) := hJ.bc.cell 0
    have e1 : wa.cell? ⟨w.heap.size + 1 + 1, 1, none⟩ = some (.int .u64 0) := hJ.bc.cell 1
    have f0 := hJ.ba.frozen 0
    have f1 := hJ.ba.frozen 1
    have f2 := hJ.bb.frozen 0
    have f3 := hJ.bb.frozen 1
    have f4 := hJ.bc.frozen 0
    have f5 := hJ.bc.frozen 1
    have ea := and_one (a := p) (by omega)
    have eb := and_one (a := q) (by omega)
    have hk1 : k < 9223372036854775807 := by
      have h1 : k < 2 ^ k := Nat.lt_two_pow_self
      have h2 : 2 ^ k ≤ 2 ^ k * p := Nat.le_mul_of_pos_right _ hp0
      omega
    have HGK := Lib.hid hgk
    have HKA := Lib.hid hka
    clear hJ HJ0 hgk hka
    go_upto_region 4 with fail
    go_cut [19] (fun s wx => s = .bool (decide (p % 2 = 0 ∧ q % 2 = 0)) ∧ wx = wa)
    case first =>
      by_cases e1 : p % 2 = 0
      · rw [e1] at ea
        by_cases e2 : q % 2 = 0
        · rw [e2] at eb
          have HE := Lib.hid (decide_eq_true (show p % 2 = 0 ∧ q % 2 = 0 from ⟨e1, e2⟩))
          clear e1 e2
          go_wp2
          go_meet
          exact ⟨by rw [HE.out], rfl⟩
        · rw [show q % 2 = 1 by omega] at eb
          have HE := Lib.hid (decide_eq_false (show ¬ (p % 2 = 0 ∧ q % 2 = 0) from fun h => e2 h.2))
          clear e1 e2
          go_wp2
          go_meet
          exact ⟨by rw [HE.out], rfl⟩
      · rw [show p % 2 = 1 by omega] at ea
        have HE := Lib.hid (decide_eq_false (show ¬ (p % 2 = 0 ∧ q % 2 = 0) from fun h => e1 h.1))
        clear e1
        go_wp2
        go_meet
        exact ⟨by rw [HE.out], rfl⟩
    case rest =>
      obtain ⟨rfl, rfl⟩ := hcut
      clear ea eb
      by_cases hev : p % 2 = 0 ∧ q % 2 = 0
      · have HEV := Lib.hid hev
        rw [decide_eq_true hev]
        have HHP := Lib.hid (fun w => half_c p (by omega) w)
        have HHQ := Lib.hid (fun w => half_c q (by omega) w)
        clear hev
        go_upto_region 5 with fail
        go_region_with (first
          | (go_at_call_of 136 (Value.agg #[.int .u64 0, .int .u64 p]); refine Calls.mono (HHP.out _) ?_; rintro e w' ⟨rfl, z, rfl⟩)
          | (go_at_call_of 136 (Value.agg #[.int .u64 0, .int .u64 q]); refine Calls.mono (HHQ.out _) ?_; rintro e w' ⟨rfl, z, rfl⟩))
        all_goals
          go_wp2
          go_roundw
          case rel =>
            refine ⟨.int .i64 (IntKind.i64.wrap ((k : Int) + 1)), _, _, _, _, _, _, _, _, _, _, _, _, _, _, _, _, ⟨p / 2, q / 2, k + 1, ?_, (((HJ.out.setA (p / 2)).setB (q / 2)).ext _).ext _, by have := HEV.out; omega, by omega, ?_, ?_⟩, by rfl⟩
            · rw [IntWalk.i64_in _ (by omega)]; go_num
            · have := HGK.out
              rw [gcd_both HEV.out.1 HEV.out.2] at this
              rw [Nat.pow_succ, Nat.mul_assoc]; exact this
            · have h1 := HKA.out
              have h2 : p = 2 * (p / 2) := by have := HEV.out; omega
              rw [Nat.pow_succ, Nat.mul_assoc, ← h2]; exact h1
          case measure =>
            exact lt_eq ((((HJ.out.setA (p / 2)).setB (q / 2)).ext _).ext _).nat.1 (by rw [HJ.out.nat.1]; omega)
      · rw [decide_eq_false hev]
        have HNE := Lib.hid (show p % 2 = 1 ∨ q % 2 = 1 by omega)
        obtain ⟨G0, hG0⟩ : ∃ G0, Nat.gcd p q = G0 := ⟨_, rfl⟩
        have HG0 := Lib.hid (show 2 ^ k * G0 = G by rw [← hG0]; exact HGK.out)
        have HGP := Lib.hid hG0
        clear hev hG0 c0 c1 d0 d1 e0 e1 f0 f1 f2 f3 f4 f5
        go_wp2_with fail
        go_loopw [26] (fun _ wr => ∃ a1 b1 : Nat, GcdJ w a1 b1 wr ∧ 0 < b1 ∧ (a1 < 9223372036854775808 ∧ b1 < 9223372036854775808) ∧ (a1 % 2 = 1 ∨ b1 % 2 = 1) ∧ Nat.gcd a1 b1 = G0) (fun _ wr => natAt wr ⟨w.heap.size, 1, none⟩ + natAt wr ⟨w.heap.size + 1, 1, none⟩)
        case atStart => exact ⟨p, q, HJ.out, hq0, ⟨hp1, hq1⟩, HNE.out, HGP.out⟩
        case round =>
          obtain ⟨wb, rfl⟩ : ∃ W : World, W = wr := ⟨_, rfl⟩
          obtain ⟨a1, b1, hJ, hb0', ⟨ha1, hb1⟩, hodd, hg⟩ := hrel
          have HJ2 := Lib.hid hJ
          by_cases hz : a1 = 0
          · subst hz
            rw [Nat.gcd_zero_left] at hg
            subst hg
            have c0 : wb.cell? ⟨w.heap.size, 0, none⟩ = some (.int .u64 0) := hJ.ba.cell 0
            have c1 : wb.cell? ⟨w.heap.size, 1, none⟩ = some (.int .u64 0) := hJ.ba.cell 1
            have d0 : wb.cell? ⟨w.heap.size + 1, 0, none⟩ = some (.int .u64 0) := hJ.bb.cell 0
            have d1 : wb.cell? ⟨w.heap.size + 1, 1, none⟩ = some (.int .u64 b1) := hJ.bb.cell 1
            have e0 : wb.cell? ⟨w.heap.size + 1 + 1, 0, none⟩ = some (.int .u64 0) := hJ.bc.cell 0
            have e1 : wb.cell? ⟨w.heap.size + 1 + 1, 1, none⟩ = some (.int .u64 0) := hJ.bc.cell 1
            have f0 := hJ.ba.frozen 0
            have f1 := hJ.ba.frozen 1
            have f2 := hJ.bb.frozen 0
            have f3 := hJ.bb.frozen 1
            have f4 := hJ.bc.frozen 0
            have f5 := hJ.bc.frozen 1
            clear hJ hodd
            have dz : ((0 : Int) != 0) = false := rfl
            go_wp2_with fail
            clear c0 c1 d0 d1 e0 e1 f0 f1 f2 f3 f4 f5 dz
            go_loopw [5] (fun t wr => ∃ j y : Nat, t = .int .i64 j ∧ j ≤ k ∧ GcdJ w 0 y wr ∧ 2 ^ j * y = G) (fun t _ => (intOf t).toNat)
            case atStart => exact ⟨k, b1, rfl, Nat.le_refl _, HJ2.out, HG0.out⟩
            case round =>
              obtain ⟨wc, rfl⟩ : ∃ W : World, W = wr := ⟨_, rfl⟩
              obtain ⟨j, y, rfl, hjk, hJ, hy⟩ := hrel
              have HJ3 := Lib.hid hJ
              have c0 : wc.cell? ⟨w.heap.size, 0, none⟩ = some (.int .u64 0) := hJ.ba.cell 0
              have c1 : wc.cell? ⟨w.heap.size, 1, none⟩ = some (.int .u64 0) := hJ.ba.cell 1
              have d0 : wc.cell? ⟨w.heap.size + 1, 0, none⟩ = some (.int .u64 0) := hJ.bb.cell 0
              have d1 : wc.cell? ⟨w.heap.size + 1, 1, none⟩ = some (.int .u64 y) := hJ.bb.cell 1
              have e0 : wc.cell? ⟨w.heap.size + 1 + 1, 0, none⟩ = some (.int .u64 0) := hJ.bc.cell 0
              have e1 : wc.cell? ⟨w.heap.size + 1 + 1, 1, none⟩ = some (.int .u64 0) := hJ.bc.cell 1
              have f0 := hJ.ba.frozen 0
              have f1 := hJ.ba.frozen 1
              have f2 := hJ.bb.frozen 0
              have f3 := hJ.bb.frozen 1
              have f4 := hJ.bc.frozen 0
              have f5 := hJ.bc.frozen 1
              by_cases hj0 : j = 0
              · subst hj0
                rw [Nat.pow_zero, Nat.one_mul] at hy
                subst hy
                have dj : decide ((0 : Int) < 0) = false := rfl
                clear hJ
                go_wp2
                refine bodyPost_ret (v := .agg #[.int .u64 0, .int .u64 (y : Int)]) (by simp [results, Tryz.results96, go_sem, e0, e1]) rfl ?_
                exact Ret.of (by
                  have hb := HJ3.out.below
                  exact (hb.setCell (p := ⟨w.heap.size + 1 + 1, 0, none⟩) (show w.heap.size ≤ w.heap.size + 1 + 1 by omega) _).setCell (p := ⟨w.heap.size + 1 + 1, 1, none⟩) (show w.heap.size ≤ w.heap.size + 1 + 1 by omega) _)
              · obtain ⟨i, rfl⟩ : ∃ i, j = i + 1 := ⟨j - 1, by omega⟩
                have hy2 : 2 ^ i * (y + y) = G := by rw [← hy, Nat.pow_succ, Nat.mul_assoc]; congr 1; omega
                have hyG : y + y ≤ G := by rw [← hy2]; exact Nat.le_mul_of_pos_left _ (Nat.pow_pos (by omega))
                have HY := Lib.hid hy2
                have dj : decide ((0 : Int) < ((i + 1 : Nat) : Int)) = true := by simp
                have HPL := Lib.hid (fun w => plusU_c y y (by omega) w)
                clear hJ hy hy2
                go_wp2_with fail
                go_at_call 139; refine (HPL.out _).mono ?_; rintro e w' ⟨rfl, x1, rfl⟩
                go_wp2
                go_roundw
                case rel => exact ⟨i, y + y, by go_num, by omega, (HJ3.out.setB (y + y)).ext _, HY.out⟩
                case measure => simp [intOf]
          · have dz : ((a1 : Int) != 0) = true := by simp; omega
            have c0 : wb.cell? ⟨w.heap.size, 0, none⟩ = some (.int .u64 0) := hJ.ba.cell 0
            have c1 : wb.cell? ⟨w.heap.size, 1, none⟩ = some (.int .u64 a1) := hJ.ba.cell 1
            have d0 : wb.cell? ⟨w.heap.size + 1, 0, none⟩ = some (.int .u64 0) := hJ.bb.cell 0
            have d1 : wb.cell? ⟨w.heap.size + 1, 1, none⟩ = some (.int .u64 b1) := hJ.bb.cell 1
            have e0 : wb.cell? ⟨w.heap.size + 1 + 1, 0, none⟩ = some (.int .u64 0) := hJ.bc.cell 0
            have e1 : wb.cell? ⟨w.heap.size + 1 + 1, 1, none⟩ = some (.int .u64 0) := hJ.bc.cell 1
            have f0 := hJ.ba.frozen 0
            have f1 := hJ.ba.frozen 1
            have f2 := hJ.bb.frozen 0
            have f3 := hJ.bb.frozen 1
            have f4 := hJ.bc.frozen 0
            have f5 := hJ.bc.frozen 1
            have ha0 : 0 < a1 := by omega
            have HN := Lib.hid hJ.nat
            clear hJ hz
            go_wp2_with fail
            clear dz c0 c1 d0 d1 e0 e1 f0 f1 f2 f3 f4 f5
            go_loopw [29] (fun _ wr => ∃ a2 : Nat, GcdJ w a2 b1 wr ∧ (0 < a2 ∧ a2 ≤ a1) ∧ (a2 % 2 = 1 ∨ b1 % 2 = 1) ∧ Nat.gcd a2 b1 = G0) (fun _ wr => natAt wr ⟨w.heap.size, 1, none⟩)
            case atStart => exact ⟨a1, HJ2.out, ⟨ha0, Nat.le_refl _⟩, hodd, hg⟩
            case round =>
              clear hodd hg
              obtain ⟨wc, rfl⟩ : ∃ W : World, W = wr := ⟨_, rfl⟩
              obtain ⟨a2, hJ, ⟨h1, h2⟩, ho, hg⟩ := hrel
              have HJ3 := Lib.hid hJ
              have c0 : wc.cell? ⟨w.heap.size, 0, none⟩ = some (.int .u64 0) := hJ.ba.cell 0
              have c1 : wc.cell? ⟨w.heap.size, 1, none⟩ = some (.int .u64 a2) := hJ.ba.cell 1
              have d0 : wc.cell? ⟨w.heap.size + 1, 0, none⟩ = some (.int .u64 0) := hJ.bb.cell 0
              have d1 : wc.cell? ⟨w.heap.size + 1, 1, none⟩ = some (.int .u64 b1) := hJ.bb.cell 1
              have e0 : wc.cell? ⟨w.heap.size + 1 + 1, 0, none⟩ = some (.int .u64 0) := hJ.bc.cell 0
              have e1 : wc.cell? ⟨w.heap.size + 1 + 1, 1, none⟩ = some (.int .u64 0) := hJ.bc.cell 1
              have f0 := hJ.ba.frozen 0
              have f1 := hJ.ba.frozen 1
              have f2 := hJ.bb.frozen 0
              have f3 := hJ.bb.frozen 1
              have f4 := hJ.bc.frozen 0
              have f5 := hJ.bc.frozen 1
              have ea := and_one (a := a2) (by omega)
              clear hJ
              by_cases ev : a2 % 2 = 0
              · rw [ev] at ea
                have HGL := Lib.hid ((gcd_left ev (show b1 % 2 = 1 by omega)).trans hg)
                have hbo : b1 % 2 = 1 := by omega
                have HH := Lib.hid (fun w => half_c a2 (by omega) w)
                clear hg ho
                go_wp2_with fail
                go_at_call 136; refine (HH.out _).mono ?_; rintro e w' ⟨rfl, x1, rfl⟩
                go_wp2
                go_roundw
                case rel => exact ⟨a2 / 2, (HJ3.out.setA (a2 / 2)).ext _, by omega, .inr hbo, HGL.out⟩
                case measure =>
                  exact lt_eq ((HJ3.out.setA (a2 / 2)).ext x1).nat.1 (by rw [HJ3.out.nat.1]; omega)
              · have hao : a2 % 2 = 1 := by omega
                rw [hao] at ea
                clear ev ho
                go_wp2_with fail
                clear ea c0 c1 d0 d1 e0 e1 f0 f1 f2 f3 f4 f5
                go_loopw [35] (fun _ wr => ∃ b2 : Nat, GcdJ w a2 b2 wr ∧ (0 < b2 ∧ b2 ≤ b1) ∧ Nat.gcd a2 b2 = G0) (fun _ wr => natAt wr ⟨w.heap.size + 1, 1, none⟩)
                case atStart => exact ⟨b1, HJ3.out, ⟨hb0', Nat.le_refl _⟩, hg⟩
                case round =>
                  clear hg
                  obtain ⟨wd, rfl⟩ : ∃ W : World, W = wr := ⟨_, rfl⟩
                  obtain ⟨b2, hJ, ⟨h3, h4⟩, hg⟩ := hrel
                  have HJ4 := Lib.hid hJ
                  have c0 : wd.cell? ⟨w.heap.size, 0, none⟩ = some (.int .u64 0) := hJ.ba.cell 0
                  have c1 : wd.cell? ⟨w.heap.size, 1, none⟩ = some (.int .u64 a2) := hJ.ba.cell 1
                  have d0 : wd.cell? ⟨w.heap.size + 1, 0, none⟩ = some (.int .u64 0) := hJ.bb.cell 0
                  have d1 : wd.cell? ⟨w.heap.size + 1, 1, none⟩ = some (.int .u64 b2) := hJ.bb.cell 1
                  have e0 : wd.cell? ⟨w.heap.size + 1 + 1, 0, none⟩ = some (.int .u64 0) := hJ.bc.cell 0
                  have e1 : wd.cell? ⟨w.heap.size + 1 + 1, 1, none⟩ = some (.int .u64 0) := hJ.bc.cell 1
                  have f0 := hJ.ba.frozen 0
                  have f1 := hJ.ba.frozen 1
                  have f2 := hJ.bb.frozen 0
                  have f3 := hJ.bb.frozen 1
                  have f4 := hJ.bc.frozen 0
                  have f5 := hJ.bc.frozen 1
                  have eb := and_one (a := b2) (by omega)
                  clear hJ
                  by_cases ev : b2 % 2 = 0
                  · rw [ev] at eb
                    have HGL := Lib.hid ((gcd_right hao ev).trans hg)
                    have HH := Lib.hid (fun w => half_c b2 (by omega) w)
                    clear hg
                    go_wp2_with fail
                    go_at_call 136; refine (HH.out _).mono ?_; rintro e w' ⟨rfl, x1, rfl⟩
                    go_wp2
                    go_roundw
                    case rel => exact ⟨b2 / 2, (HJ4.out.setB (b2 / 2)).ext _, by omega, HGL.out⟩
                    case measure =>
                      exact lt_eq ((HJ4.out.setB (b2 / 2)).ext x1).nat.2 (by rw [HJ4.out.nat.2]; omega)
                  · have hbo : b2 % 2 = 1 := by omega
                    rw [hbo] at eb
                    cases hlt : decide (a2 < b2)
                    · have hle : b2 ≤ a2 := by simpa using hlt
                      have HLS := Lib.hid (fun w => less_c a2 b2 false hlt w)
                      have HMI := Lib.hid (fun w => minus_c a2 b2 hle (by omega) w)
                      have HGL := Lib.hid ((gcd_less hle).trans hg)
                      clear hg ev hlt
                      go_wp2_with fail
                      go_at_call 137; refine (HLS.out _).mono ?_; rintro e w' ⟨rfl, x1, rfl⟩
                      go_wp2_with fail
                      go_at_call 138; refine (HMI.out _).mono ?_; rintro e w' ⟨rfl, x2, rfl⟩
                      go_wp2
                      go_roundw
                      case rel => exact ⟨a2 - b2, b2, ((HJ4.out.setA (a2 - b2)).ext _).ext _, h3, by omega, .inr hbo, HGL.out⟩
                      case measure =>
                        have h5 := (((HJ4.out.setA (a2 - b2)).ext x1).ext x2).nat
                        exact lt_eq (congr (congrArg HAdd.hAdd h5.1) h5.2) (by rw [HN.out.1, HN.out.2]; omega)
                    · have hle : a2 ≤ b2 := by have : a2 < b2 := by simpa using hlt
                                               omega
                      have HLS := Lib.hid (fun w => less_c a2 b2 true hlt w)
                      have HMI := Lib.hid (fun w => minus_c b2 a2 hle (by omega) w)
                      have HGL := Lib.hid ((gcd_less hle).trans ((Nat.gcd_comm b2 a2).trans hg))
                      clear hg ev hlt
                      go_wp2_with fail
                      go_at_call 137; refine (HLS.out _).mono ?_; rintro e w' ⟨rfl, x1, rfl⟩
                      go_wp2_with fail
                      go_at_call 138; refine (HMI.out _).mono ?_; rintro e w' ⟨rfl, x2, rfl⟩
                      go_wp2
                      go_roundw
                      case rel => exact ⟨b2 - a2, a2, ((((HJ4.out.setA b2).setB a2).setA (b2 - a2)).ext _).ext _, h1, by omega, .inr hao, HGL.out⟩
                      case measure =>
                        have h5 := (((((HJ4.out.setA b2).setB a2).setA (b2 - a2)).ext x1).ext x2).nat
                        exact lt_eq (congr (congrArg HAdd.hAdd h5.1) h5.2) (by rw [HN.out.1, HN.out.2]; omega)

end Go.Proofs.YtofjopdcbmaijaaGreat

/- Sums of fractions over one number: bits.Mul64, Add64, Div64 of small numbers; ratio.Valid, product, plus, over, Add. -/
import Derived.Test.YtofjopdcbmaijaaGreatRatP
import Derived.Test.YtofjopdcbmaijaaGreatGapK4
import Derived.Shelf.Bits.Mul64
import Derived.Laws.Externs
import Derived.Test.YtofjopdcbmaijaaGreatInvK
import Derived.Deep.DeepCutAuto
import Derived.Deep.CutBlock
namespace Go.Proofs.YtofjopdcbmaijaaGreat
open Go.RowKit
set_option maxRecDepth 20000

set_option maxHeartbeats 1000000 in
theorem mul64_c (x y : Nat) (hx : x < 18446744073709551616) (hy : y < 18446744073709551616) (h : x * y < 18446744073709551616) (w : World) :
    Calls Tryz.prog 110 #[.int .u64 x, .int .u64 y] w (Ret w (.tuple #[.int .u64 0, .int .u64 ((x * y : Nat) : Int)])) := by
  obtain ⟨bd, bt, bw, hhi⟩ := Lib.mul64_hi x y hx hy
  have ba := Lib.half_mul_le (a := x / 4294967296) (b := y / 4294967296) (by omega) (by omega)
  have bb := Lib.half_mul_le (a := x / 4294967296) (b := y % 4294967296) (by omega) (by omega)
  have bc := Lib.half_mul_le (a := x % 4294967296) (b := y / 4294967296) (by omega) (by omega)
  have ba' : x / 4294967296 * (y / 4294967296) < 18446744073709551616 := by omega
  have bb' : x / 4294967296 * (y % 4294967296) < 18446744073709551616 := by omega
  have bc' : x % 4294967296 * (y / 4294967296) < 18446744073709551616 := by omega
  have bh1 : x / 4294967296 * (y / 4294967296) + (x / 4294967296 * (y % 4294967296) + x % 4294967296 * (y % 4294967296) / 4294967296) / 4294967296 < 18446744073709551616 := by omega
  have hq : x * y / 18446744073709551616 = 0 := Nat.div_eq_of_lt h
  have hr : x * y % 18446744073709551616 = x * y := Nat.mod_eq_of_lt h
  have bh : x / 4294967296 * (y / 4294967296) + (x / 4294967296 * (y % 4294967296) + x % 4294967296 * (y % 4294967296) / 4294967296) / 4294967296 + ((x / 4294967296 * (y % 4294967296) + x % 4294967296 * (y % 4294967296) / 4294967296) % 4294967296 + x % 4294967296 * (y / 4294967296)) / 4294967296 < 18446744073709551616 := by rw [hhi, hq]; omega
  go_enter Tryz.func110, Tryz.ntmps110
  go_wp2
  simp only [Mul64.maskN x hx, Mul64.maskN y hy, Mul64.divN, Mul64.mulN, Mul64.addN, Mul64.wrapN _ bd, Mul64.wrapN _ bb', Mul64.wrapN _ bt, Mul64.maskN _ bt, Mul64.wrapN _ bc', Mul64.wrapN _ bw, Mul64.wrapN _ ba', Mul64.wrapN _ bh1, Mul64.wrapN _ bh]
  rw [hhi, hq]
  go_ret2
  exact Ret.of (by (repeat (first | exact grow_refl _ | refine grow_ext _ ?_ | refine grow_alloc _ ?_ | refine grow_drew ?_)))

set_option maxHeartbeats 1000000 in
theorem div64_c (a g : Nat) (ha : a < 18446744073709551616) (hg : 0 < g) (hg2 : g < 18446744073709551616) (w : World) :
    Calls Tryz.prog 113 #[.int .u64 0, .int .u64 a, .int .u64 g] w (Ret w (.tuple #[.int .u64 ((a / g : Nat) : Int), .int .u64 ((a % g : Nat) : Int)])) := by
  have d1 : ((g : Int) == 0) = false := by simp; omega
  have d2 : decide ((g : Int) ≤ 0) = false := by simp; omega
  have hg0 : (g : Int) ≠ 0 := by omega
  have t1 : Int.tdiv (a : Int) (g : Int) = ((a / g : Nat) : Int) := rfl
  have t2 : Int.tmod (a : Int) (g : Int) = ((a % g : Nat) : Int) := rfl
  have h1 := Nat.div_le_self a g
  have h2 := Nat.mod_lt a hg
  obtain ⟨q, hq⟩ : ∃ q, a / g = q := ⟨_, rfl⟩
  obtain ⟨r, hr⟩ : ∃ r, a % g = r := ⟨_, rfl⟩
  rw [hq] at t1 h1 ⊢
  rw [hr] at t2 h2 ⊢
  have w1 : IntKind.u64.wrap (q : Int) = (q : Int) := by rw [IntKind.wrap_u64]; omega
  have w2 : IntKind.u64.wrap (r : Int) = (r : Int) := by rw [IntKind.wrap_u64]; omega
  clear hq hr
  go_enter Tryz.func113, Tryz.ntmps113
  go_wp2_with fail
  refine wp_region_grows (by kernel_rfl) (by kernel_rfl) ?_
  repeat (go_big_quiet_step (fail))
  refine wpQuiet_nil ?_; rintro _ ⟨xq, rfl⟩
  go_wp2
  go_ret2
  exact Ret.of (by (repeat (first | exact grow_refl _ | refine grow_ext _ ?_ | refine grow_alloc _ ?_ | refine grow_drew ?_)))

theorem add64_run (x y : Nat) (h : x + y < 18446744073709551616) (w : World) : (callFunc 111 #[.int .u64 x, .int .u64 y, .int .u64 0]).run Tryz.prog w = .ok (.value (.tuple #[.int .u64 ((x + y : Nat) : Int), .int .u64 0])) w := by
  rw [run_callFunc_extern Tryz.func111 (by kernel_rfl) (by kernel_rfl) (by kernel_rfl) (e := add64Entry) (by kernel_rfl), run_add64 x y 0 (by omega) (by omega) (by omega) (by omega)]
  simp only [Result.andThen]
  rw [show ((x : Int) + (y : Int) + 0) % 18446744073709551616 = ((x + y : Nat) : Int) by omega, show ((x : Int) + (y : Int) + 0) / 18446744073709551616 = 0 by omega]

set_option maxHeartbeats 1000000 in
theorem product_c (a b : Nat) (ha : a < 18446744073709551616) (hb : b < 18446744073709551616) (h : a * b < 18446744073709551616) (w : World) :
    Calls Tryz.prog 59 #[.int .u64 a, .int .u64 b] w (Ret w (.agg #[.int .u64 0, .int .u64 ((a * b : Nat) : Int)])) := by
  have HM := Lib.hid (fun w => mul64_c a b ha hb h w)
  obtain ⟨p, hp⟩ : ∃ p, a * b = p := ⟨_, rfl⟩
  rw [hp] at HM ⊢
  clear hp h ha hb
  go_enter Tryz.func59, Tryz.ntmps59
  go_wp2_with fail
  go_at_call 110; refine (HM.out _).mono ?_; rintro e w' ⟨rfl, x1, rfl⟩
  go_wp2
  refine bodyPost_ret (v := .agg #[.int .u64 0, .int .u64 (p : Int)]) (by simp [results, Tryz.results59, go_sem]) rfl ?_
  exact Ret.of (by (repeat (first | exact grow_refl _ | refine grow_ext _ ?_ | refine grow_alloc _ ?_ | refine grow_drew ?_)))

theorem product_v (a b r : Nat) (h : a * b = r) (ha : a < 18446744073709551616) (hb : b < 18446744073709551616) (hr : r < 18446744073709551616) (w : World) :
    Calls Tryz.prog 59 #[.int .u64 a, .int .u64 b] w (Ret w (.agg #[.int .u64 0, .int .u64 (r : Int)])) := by
  subst h; exact product_c a b ha hb hr w

set_option maxHeartbeats 1000000 in
theorem plusW_c (a b : Nat) (h : a + b < 18446744073709551616) (w : World) :
    Calls Tryz.prog 61 #[.agg #[.int .u64 0, .int .u64 a], .agg #[.int .u64 0, .int .u64 b]] w (Ret w (.agg #[.int .u64 0, .int .u64 ((a + b : Nat) : Int)])) := by
  have hA := fun w => add64_run a b h w
  have hB := fun w => add64_run 0 0 (by omega) w
  simp only [Nat.add_zero, Int.natCast_zero] at hB
  obtain ⟨p, hp⟩ : ∃ p, a + b = p := ⟨_, rfl⟩
  rw [hp] at hA ⊢
  clear hp h
  go_enter Tryz.func61, Tryz.ntmps61
  go_wp2
  refine bodyPost_ret (v := .agg #[.int .u64 0, .int .u64 (p : Int)]) (by simp [results, Tryz.results61, go_sem]) rfl ?_
  exact Ret.of (by (repeat (first | exact grow_refl _ | refine grow_ext _ ?_ | refine grow_alloc _ ?_ | refine grow_drew ?_)))

set_option maxHeartbeats 1000000 in
theorem overW_c (a g : Nat) (ha : a < 18446744073709551616) (hg : 0 < g) (hg2 : g < 18446744073709551616) (w : World) :
    Calls Tryz.prog 64 #[.agg #[.int .u64 0, .int .u64 a], .int .u64 g] w (Ret w (.tuple #[.agg #[.int .u64 0, .int .u64 ((a / g : Nat) : Int)], .int .u64 ((a % g : Nat) : Int)])) := by
  have HD := Lib.hid (fun w => div64_c a g ha hg hg2 w)
  have hg0 : (g : Int) ≠ 0 := by omega
  have t1 : Int.tdiv 0 (g : Int) = 0 := by simp
  have t2 : Int.tmod 0 (g : Int) = 0 := by simp
  obtain ⟨q, hq⟩ : ∃ q, a / g = q := ⟨_, rfl⟩
  obtain ⟨r, hr⟩ : ∃ r, a % g = r := ⟨_, rfl⟩
  rw [hq, hr] at HD ⊢
  clear hq hr
  go_enter Tryz.func64, Tryz.ntmps64
  go_wp2_with fail
  refine wp_region_grows (by kernel_rfl) (by kernel_rfl) ?_
  repeat (go_big_quiet_step ((go_at_call 113; exact Calls.quiet_ext (HD.out _))))
  refine wpQuiet_nil ?_; rintro _ ⟨xq, rfl⟩
  go_wp2
  refine bodyPost_ret (v := .tuple #[.agg #[.int .u64 0, .int .u64 (q : Int)], .int .u64 (r : Int)]) (by simp [results, Tryz.results64, go_sem]) rfl ?_
  exact Ret.of (by (repeat (first | exact grow_refl _ | refine grow_ext _ ?_ | refine grow_alloc _ ?_ | refine grow_drew ?_)))

set_option maxHeartbeats 2000000 in
theorem validF_c (p m : Nat) (hp : p ≤ 1152921504606846976) (hm : m ≤ 1152921504606846976) (hm0 : 0 < m) (hg : Nat.gcd p m = 1) (w : World) :
    Calls Tryz.prog 57 #[.agg #[.int .i64 p, .int .i64 m]] w (Ret w (.bool true)) := by
  have HS := Lib.hid (fun w => sizeU_c p (by omega) w)
  have HG := Lib.hid (show ∀ w, Calls Tryz.prog 58 #[.int .u64 p, .int .u64 m] w (Ret w (.int .u64 1)) from fun w => by
    have := gcdU_c p m (by omega) (by omega) w
    rw [hg] at this
    exact this)
  have hw : IntKind.u64.wrap (m : Int) = (m : Int) := by rw [IntKind.wrap_u64]; omega
  have d1 : decide ((1 : Int) ≤ (m : Int)) = true := by simp; omega
  have d2 : decide ((m : Int) ≤ 1152921504606846976) = true := by simp; omega
  have d3 : decide ((-1152921504606846976 : Int) ≤ (p : Int)) = true := decide_eq_true (by omega)
  have d4 : decide ((p : Int) ≤ 1152921504606846976) = true := by simp; omega
  clear hp hm hm0 hg
  go_enter Tryz.func57, Tryz.ntmps57
  go_wp2_with fail
  refine wp_region_grows (by kernel_rfl) (by kernel_rfl) ?_
  repeat (go_big_quiet_step ((first | (go_at_call 60; exact Calls.quiet_ext (HS.out _)) | (go_at_call 58; exact Calls.quiet_ext (HG.out _)))))
  refine wpQuiet_nil ?_; rintro _ ⟨xq, rfl⟩
  go_wp2
  go_ret
  exact Ret.of (by (repeat (first | exact grow_refl _ | refine grow_ext _ ?_ | refine grow_alloc _ ?_ | refine grow_drew ?_)))

theorem below_setR {w a : World} {p : Addr} (h : Below w.heap.size w a) (hp : w.heap.size ≤ p.block) (v : Value) : Below w.heap.size w (a.setCell p v) := h.setCell hp v
/-- The cells of a fraction. -/
def FrAt (w : World) (g a b : Nat) : Prop := w.cell? ⟨g, 0, none⟩ = some (.int .i64 (a : Int)) ∧ w.cell? ⟨g, 1, none⟩ = some (.int .i64 (b : Int))
theorem FrAt.ext {w : World} {g a b : Nat} (h : FrAt w g a b) (x : World) : FrAt (ext w x) g a b := ⟨cell_ext_some h.1 x, cell_ext_some h.2 x⟩

set_option maxRecDepth 100000 in
set_option maxHeartbeats 16000000 in
theorem addF_c (A B D : Nat) (hA : A ≤ 2147483648) (hB : B ≤ 2147483648) (hD : D ≤ 576460752303423488) (hD0 : 0 < D) (w : World) :
    Calls Tryz.prog 26 #[fracV A D, fracV B D] w (Ret w (.tuple #[fracV (A + B) D, .int .i64 0])) := by
  obtain ⟨p, hp⟩ : ∃ p, p = A / Nat.gcd A D := ⟨_, rfl⟩
  obtain ⟨m, hm⟩ : ∃ m, m = D / Nat.gcd A D := ⟨_, rfl⟩
  obtain ⟨q, hq⟩ : ∃ q, q = B / Nat.gcd B D := ⟨_, rfl⟩
  obtain ⟨n, hn⟩ : ∃ n, n = D / Nat.gcd B D := ⟨_, rfl⟩
  obtain ⟨g, hg⟩ : ∃ g, g = Nat.gcd m n := ⟨_, rfl⟩
  obtain ⟨s, hs⟩ : ∃ s, s = p * (n / g) + q * (m / g) := ⟨_, rfl⟩
  obtain ⟨c, hc⟩ : ∃ c, c = Nat.gcd g (s % g) := ⟨_, rfl⟩
  obtain ⟨hm0, hn0, hg0, cp, cq, b1, b2, hz, hnz, b3, b4, b5, b6⟩ := add_low A B D p m q n g s c hD0 hp hm hq hn hg hs hc
  have hgm : g ≤ m := by rw [hg]; exact Nat.gcd_le_left n hm0
  rw [show fracV A D = .agg #[.int .i64 p, .int .i64 m] by unfold fracV; rw [← hp, ← hm], show fracV B D = .agg #[.int .i64 q, .int .i64 n] by unfold fracV; rw [← hq, ← hn]]
  have HV1 := Lib.hid (fun w => validF_c p m (by omega) (by omega) hm0 cp w)
  have HV2 := Lib.hid (fun w => validF_c q n (by omega) (by omega) hn0 cq w)
  have HG := Lib.hid (fun w => gcdU_c m n (by omega) (by omega) w)
  rw [← hg] at HG
  have HS1 := Lib.hid (fun w => sizeU_c p (by omega) w)
  have HS2 := Lib.hid (fun w => sizeU_c q (by omega) w)
  have w1 : IntKind.u64.wrap (m : Int) = (m : Int) := by rw [IntKind.wrap_u64]; omega
  have w2 : IntKind.u64.wrap (n : Int) = (n : Int) := by rw [IntKind.wrap_u64]; omega
  have hgi : (g : Int) ≠ 0 := by omega
  have t1 : Int.tdiv (n : Int) (g : Int) = ((n / g : Nat) : Int) := rfl
  have t2 : Int.tdiv (m : Int) (g : Int) = ((m / g : Nat) : Int) := rfl
  have ln := Nat.div_le_self n g
  have lm := Nat.div_le_self m g
  have HP1 := Lib.hid (fun w => product_c p (n / g) (by omega) (by omega) (by omega) w)
  have HP2 := Lib.hid (fun w => product_c q (m / g) (by omega) (by omega) (by omega) w)
  obtain ⟨X, hX⟩ : ∃ X, p * (n / g) = X := ⟨_, rfl⟩
  obtain ⟨Y, hY⟩ : ∃ Y, q * (m / g) = Y := ⟨_, rfl⟩
  rw [hX] at HP1 b1 hs
  rw [hY] at HP2 b2 hs
  have HPL := Lib.hid (fun w => plusW_c X Y (by omega) w)
  rw [← hs] at HPL
  have hsb : s ≤ 4294967296 := by omega
  obtain ⟨n', hn'⟩ : ∃ n', n / g = n' := ⟨_, rfl⟩
  obtain ⟨m', hm'⟩ : ∃ m', m / g = m' := ⟨_, rfl⟩
  rw [hn'] at t1 ln HP1 hX
  rw [hm'] at t2 lm HP2 hnz hY
  have HX := Lib.hid hX
  have HY := Lib.hid hY
  have w3 : IntKind.u64.wrap (n' : Int) = (n' : Int) := by rw [IntKind.wrap_u64]; omega
  have w4 : IntKind.u64.wrap (m' : Int) = (m' : Int) := by rw [IntKind.wrap_u64]; omega
  have e1 : decide ((p : Int) < 0) = false := by simp
  have e2 : decide ((q : Int) < 0) = false := by simp
  have HNZ := Lib.hid hnz
  have HZ := Lib.hid hz
  have HC := Lib.hid hc
  have HO := Lib.hid (fun w => overW_c s g (by omega) hg0 (by omega) w)
  have hsg := Nat.mod_lt s hg0
  have HG2 := Lib.hid (fun w => gcdU_c g (s % g) (by omega) (by omega) w)
  rw [← hc] at HG2
  clear hp hm hq hn hs hX hY hn' hm' hnz hz hc cp cq hg b1 b2 b5 b6
  by_cases hs0 : s = 0
  · have HF := Lib.hid (show fracV (A + B) D = .agg #[.int .i64 0, .int .i64 1] by
      rw [HZ.out.1 hs0]; unfold fracV
      rw [Nat.gcd_zero_left, Nat.zero_div, Nat.div_self hD0]; rfl)
    have d5 : ((s : Int) == 0) = true := by simp [hs0]
    clear hs0
    go_enter Tryz.func26, Tryz.ntmps26
    go_wp2_with fail
    go_at_call 57; refine (HV1.out _).mono ?_; rintro e w' ⟨rfl, x1, rfl⟩
    go_wp2_with fail
    go_at_call 57; refine (HV2.out _).mono ?_; rintro e w' ⟨rfl, x2, rfl⟩
    go_wp2_with fail
    go_at_call 58; refine (HG.out _).mono ?_; rintro e w' ⟨rfl, x3, rfl⟩
    go_wp2_with fail
    refine world_mask (fun W => Below w.heap.size w W ∧ FrAt W w.heap.size p m ∧ FrAt W (w.heap.size + 1) q n ∧ Blk W (w.heap.size + 1 + 1) #[.int .i64 0, .int .i64 0] 52) _ ⟨by (repeat (first | exact grow_refl _ | refine grow_ext _ ?_ | refine grow_alloc _ ?_ | refine grow_drew ?_)), by simp [FrAt, go_sem], by simp [FrAt, go_sem], (((Blk.new' (by simp) _ _).ext _).ext _).ext _⟩ ?_
    rintro W1 ⟨hb1, hfa, hfb, hrb⟩
    have HRB := Lib.hid hrb
    have HB1 := Lib.hid hb1
    have HFA := Lib.hid hfa
    have HFB := Lib.hid hfb
    clear hb1 hfa hfb hrb
    go_cut [7, 8] (fun s7 s8 wx => ∃ g7 g8, s7 = .pointer (some ⟨g7, 0, none⟩) ∧ s8 = .pointer (some ⟨g8, 0, none⟩) ∧ Blk wx g7 #[.int .u64 0, .int .u64 (X : Int)] 112 ∧ Blk wx g8 #[.int .u64 0, .int .u64 (Y : Int)] 112 ∧ Below W1.heap.size W1 wx)
    case first =>
      have hok : mkOk [18, 20, 19, 21] [⟨18, 20, 112, #[.int .u64 0, .int .u64 (X : Int)]⟩, ⟨19, 21, 112, #[.int .u64 0, .int .u64 (Y : Int)]⟩] := mkOk_two (by decide)
      refine wp_region_M [.pointer (some ⟨w.heap.size, 0, none⟩), .int .i64 (p : Int), .int .u64 (p : Int), .pointer (some ⟨w.heap.size + 1, 1, none⟩), .int .i64 (n : Int), .int .u64 (n : Int), .int .u64 (g : Int), .int .u64 (n' : Int), .agg #[.int .u64 0, .int .u64 (X : Int)], .pointer (some ⟨w.heap.size + 1, 0, none⟩), .int .i64 (q : Int), .int .u64 (q : Int), .pointer (some ⟨w.heap.size, 1, none⟩), .int .i64 (m : Int), .int .u64 (m : Int), .int .u64 (g : Int), .int .u64 (m' : Int), .agg #[.int .u64 0, .int .u64 (Y : Int)], undef, undef, undef, undef] [18, 20, 19, 21] [⟨18, 20, 112, #[.int .u64 0, .int .u64 (X : Int)]⟩, ⟨19, 21, 112, #[.int .u64 0, .int .u64 (Y : Int)]⟩] (by kernel_rfl) (by kernel_rfl) ?_ ?_ ?_
      · intro b hb
        simp only [List.mem_cons, List.not_mem_nil, or_false] at hb
        rcases hb with rfl | rfl
        all_goals exact ⟨of_decide_eq_true (by kernel_rfl), of_decide_eq_true (by kernel_rfl)⟩
      · intro L vs W i hlen hJ hi
        obtain ⟨x0, vs0, rfl, hlen0⟩ := len_cons hlen
        obtain ⟨x1, vs1, rfl, hlen1⟩ := len_cons hlen0
        obtain ⟨x2, vs2, rfl, hlen2⟩ := len_cons hlen1
        obtain ⟨x3, vs3, rfl, hlen3⟩ := len_cons hlen2
        obtain ⟨x4, vs4, rfl, hlen4⟩ := len_cons hlen3
        obtain ⟨x5, vs5, rfl, hlen5⟩ := len_cons hlen4
        obtain ⟨x6, vs6, rfl, hlen6⟩ := len_cons hlen5
        obtain ⟨x7, vs7, rfl, hlen7⟩ := len_cons hlen6
        obtain ⟨x8, vs8, rfl, hlen8⟩ := len_cons hlen7
        obtain ⟨x9, vs9, rfl, hlen9⟩ := len_cons hlen8
        obtain ⟨x10, vs10, rfl, hlen10⟩ := len_cons hlen9
        obtain ⟨x11, vs11, rfl, hlen11⟩ := len_cons hlen10
        obtain ⟨x12, vs12, rfl, hlen12⟩ := len_cons hlen11
        obtain ⟨x13, vs13, rfl, hlen13⟩ := len_cons hlen12
        obtain ⟨x14, vs14, rfl, hlen14⟩ := len_cons hlen13
        obtain ⟨x15, vs15, rfl, hlen15⟩ := len_cons hlen14
        obtain ⟨x16, vs16, rfl, hlen16⟩ := len_cons hlen15
        obtain ⟨x17, vs17, rfl, hlen17⟩ := len_cons hlen16
        obtain ⟨x18, vs18, rfl, hlen18⟩ := len_cons hlen17
        obtain ⟨x19, vs19, rfl, hlen19⟩ := len_cons hlen18
        obtain ⟨x20, vs20, rfl, hlen20⟩ := len_cons hlen19
        obtain ⟨x21, vs21, rfl, hlen21⟩ := len_cons hlen20
        obtain rfl := len_nil hlen21
        clear hlen hlen0 hlen1 hlen2 hlen3 hlen4 hlen5 hlen6 hlen7 hlen8 hlen9 hlen10 hlen11 hlen12 hlen13 hlen14 hlen15 hlen16 hlen17 hlen18 hlen19 hlen20 hlen21
        obtain ⟨hun, o, ho, hd⟩ := mem_ready.1 hi
        have hin : i < 22 := by have := (Array.getElem?_eq_some_iff.1 ho).1; simpa using this
        refine wpOp_free (B := fun a' W' => ∃ x0 x1 x2 x3 x4 x5 x6 x7 x8 x9 x10 x11 x12 x13 x14 x15 x16 x17 x18 x19 x20 x21, a' = putAll _ [x0, x1, x2, x3, x4, x5, x6, x7, x8, x9, x10, x11, x12, x13, x14, x15, x16, x17, x18, x19, x20, x21] _ ∧ InvM _ _ _ _ [x0, x1, x2, x3, x4, x5, x6, x7, x8, x9, x10, x11, x12, x13, x14, x15, x16, x17, x18, x19, x20, x21] (L.setIfInBounds i true) W') (fun _ _ h => by obtain ⟨x0, x1, x2, x3, x4, x5, x6, x7, x8, x9, x10, x11, x12, x13, x14, x15, x16, x17, x18, x19, x20, x21, h1, h2⟩ := h; exact ⟨[x0, x1, x2, x3, x4, x5, x6, x7, x8, x9, x10, x11, x12, x13, x14, x15, x16, x17, x18, x19, x20, x21], rfl, h1, h2⟩) ?_
        intro K HK
        simp only [putAll_cons, putAll_nil, put_some, put_none, List.setIfInBounds_toArray, List.set_cons_succ, List.set_cons_zero] at HK ⊢
        have HOK := Lib.hid hok
        clear hok
        obtain ⟨z, ez⟩ := ext_of hJ.below
        have hfa := HFA.out.ext z
        have hfb := HFB.out.ext z
        rw [← ez] at hfa hfb
        obtain ⟨ca0, ca1⟩ := hfa
        obtain ⟨cb0, cb1⟩ := hfb
        clear ez
        rcases (show i = 0 ∨ i = 1 ∨ i = 2 ∨ i = 3 ∨ i = 4 ∨ i = 5 ∨ i = 6 ∨ i = 7 ∨ i = 8 ∨ i = 9 ∨ i = 10 ∨ i = 11 ∨ i = 12 ∨ i = 13 ∨ i = 14 ∨ i = 15 ∨ i = 16 ∨ i = 17 ∨ i = 18 ∨ i = 19 ∨ i = 20 ∨ i = 21 by omega) with rfl | rfl | rfl | rfl | rfl | rfl | rfl | rfl | rfl | rfl | rfl | rfl | rfl | rfl | rfl | rfl | rfl | rfl | rfl | rfl | rfl | rfl
        · obtain rfl := Option.some.inj ho
          refine wpOp_of_list (by rfl) ?_
          go_wp2
          exact HK.out _ _ ⟨_, _, _, _, _, _, _, _, _, _, _, _, _, _, _, _, _, _, _, _, _, _, rfl, hJ.up HOK.out 0 (by decide) (show 0 < 22 by decide) rfl⟩
        · obtain rfl := Option.some.inj ho
          have d0 : x0 = .pointer (some ⟨w.heap.size, 0, none⟩) := hJ.val 0 (show 0 < 22 by decide) (by decide) (getD_upJ (hd ⟨0, .data⟩ (by simp) (by rfl)))
          subst d0
          refine wpOp_of_list (by rfl) ?_
          go_wp2
          exact HK.out _ _ ⟨_, _, _, _, _, _, _, _, _, _, _, _, _, _, _, _, _, _, _, _, _, _, rfl, hJ.up HOK.out 1 (by decide) (show 1 < 22 by decide) rfl⟩
        · obtain rfl := Option.some.inj ho
          have d1 : x1 = .int .i64 (p : Int) := hJ.val 1 (show 1 < 22 by decide) (by decide) (getD_upJ (hd ⟨1, .data⟩ (by simp) (by rfl)))
          subst d1
          refine wpOp_of_list (by rfl) ?_
          go_wp2_with fail
          go_at_call 60; refine (HS1.out _).mono ?_; rintro e w' ⟨rfl, xq, rfl⟩
          go_wp2
          exact HK.out _ _ ⟨_, _, _, _, _, _, _, _, _, _, _, _, _, _, _, _, _, _, _, _, _, _, rfl, (hJ.grow _).up HOK.out 2 (by decide) (show 2 < 22 by decide) rfl⟩
        · obtain rfl := Option.some.inj ho
          refine wpOp_of_list (by rfl) ?_
          go_wp2
          exact HK.out _ _ ⟨_, _, _, _, _, _, _, _, _, _, _, _, _, _, _, _, _, _, _, _, _, _, rfl, hJ.up HOK.out 3 (by decide) (show 3 < 22 by decide) rfl⟩
        · obtain rfl := Option.some.inj ho
          have d3 : x3 = .pointer (some ⟨w.heap.size + 1, 1, none⟩) := hJ.val 3 (show 3 < 22 by decide) (by decide) (getD_upJ (hd ⟨3, .data⟩ (by simp) (by rfl)))
          subst d3
          refine wpOp_of_list (by rfl) ?_
          go_wp2
          exact HK.out _ _ ⟨_, _, _, _, _, _, _, _, _, _, _, _, _, _, _, _, _, _, _, _, _, _, rfl, hJ.up HOK.out 4 (by decide) (show 4 < 22 by decide) rfl⟩
        · obtain rfl := Option.some.inj ho
          have d4 : x4 = .int .i64 (n : Int) := hJ.val 4 (show 4 < 22 by decide) (by decide) (getD_upJ (hd ⟨4, .data⟩ (by simp) (by rfl)))
          subst d4
          refine wpOp_of_list (by rfl) ?_
          go_wp2
          exact HK.out _ _ ⟨_, _, _, _, _, _, _, _, _, _, _, _, _, _, _, _, _, _, _, _, _, _, rfl, hJ.up HOK.out 5 (by decide) (show 5 < 22 by decide) rfl⟩
        · obtain rfl := Option.some.inj ho
          refine wpOp_of_list (by rfl) ?_
          go_wp2
          exact HK.out _ _ ⟨_, _, _, _, _, _, _, _, _, _, _, _, _, _, _, _, _, _, _, _, _, _, rfl, hJ.up HOK.out 6 (by decide) (show 6 < 22 by decide) rfl⟩
        · obtain rfl := Option.some.inj ho
          have d5 : x5 = .int .u64 (n : Int) := hJ.val 5 (show 5 < 22 by decide) (by decide) (getD_upJ (hd ⟨5, .data⟩ (by simp) (by rfl)))
          have d6 : x6 = .int .u64 (g : Int) := hJ.val 6 (show 6 < 22 by decide) (by decide) (getD_upJ (hd ⟨6, .data⟩ (by simp) (by rfl)))
          subst d5 d6
          refine wpOp_of_list (by rfl) ?_
          go_wp2
          exact HK.out _ _ ⟨_, _, _, _, _, _, _, _, _, _, _, _, _, _, _, _, _, _, _, _, _, _, rfl, hJ.up HOK.out 7 (by decide) (show 7 < 22 by decide) rfl⟩
        · obtain rfl := Option.some.inj ho
          have d2 : x2 = .int .u64 (p : Int) := hJ.val 2 (show 2 < 22 by decide) (by decide) (getD_upJ (hd ⟨2, .data⟩ (by simp) (by rfl)))
          have d7 : x7 = .int .u64 (n' : Int) := hJ.val 7 (show 7 < 22 by decide) (by decide) (getD_upJ (hd ⟨7, .data⟩ (by simp) (by rfl)))
          subst d2 d7
          refine wpOp_of_list (by rfl) ?_
          go_wp2_with fail
          go_at_call 59; refine (HP1.out _).mono ?_; rintro e w' ⟨rfl, xq, rfl⟩
          go_wp2
          exact HK.out _ _ ⟨_, _, _, _, _, _, _, _, _, _, _, _, _, _, _, _, _, _, _, _, _, _, rfl, (hJ.grow _).up HOK.out 8 (by decide) (show 8 < 22 by decide) rfl⟩
        · obtain rfl := Option.some.inj ho
          refine wpOp_of_list (by rfl) ?_
          go_wp2
          exact HK.out _ _ ⟨_, _, _, _, _, _, _, _, _, _, _, _, _, _, _, _, _, _, _, _, _, _, rfl, hJ.up HOK.out 9 (by decide) (show 9 < 22 by decide) rfl⟩
        · obtain rfl := Option.some.inj ho
          have d9 : x9 = .pointer (some ⟨w.heap.size + 1, 0, none⟩) := hJ.val 9 (show 9 < 22 by decide) (by decide) (getD_upJ (hd ⟨9, .data⟩ (by simp) (by rfl)))
          subst d9
          refine wpOp_of_list (by rfl) ?_
          go_wp2
          exact HK.out _ _ ⟨_, _, _, _, _, _, _, _, _, _, _, _, _, _, _, _, _, _, _, _, _, _, rfl, hJ.up HOK.out 10 (by decide) (show 10 < 22 by decide) rfl⟩
        · obtain rfl := Option.some.inj ho
          have d10 : x10 = .int .i64 (q : Int) := hJ.val 10 (show 10 < 22 by decide) (by decide) (getD_upJ (hd ⟨10, .data⟩ (by simp) (by rfl)))
          subst d10
          refine wpOp_of_list (by rfl) ?_
          go_wp2_with fail
          go_at_call 60; refine (HS2.out _).mono ?_; rintro e w' ⟨rfl, xq, rfl⟩
          go_wp2
          exact HK.out _ _ ⟨_, _, _, _, _, _, _, _, _, _, _, _, _, _, _, _, _, _, _, _, _, _, rfl, (hJ.grow _).up HOK.out 11 (by decide) (show 11 < 22 by decide) rfl⟩
        · obtain rfl := Option.some.inj ho
          refine wpOp_of_list (by rfl) ?_
          go_wp2
          exact HK.out _ _ ⟨_, _, _, _, _, _, _, _, _, _, _, _, _, _, _, _, _, _, _, _, _, _, rfl, hJ.up HOK.out 12 (by decide) (show 12 < 22 by decide) rfl⟩
        · obtain rfl := Option.some.inj ho
          have d12 : x12 = .pointer (some ⟨w.heap.size, 1, none⟩) := hJ.val 12 (show 12 < 22 by decide) (by decide) (getD_upJ (hd ⟨12, .data⟩ (by simp) (by rfl)))
          subst d12
          refine wpOp_of_list (by rfl) ?_
          go_wp2
          exact HK.out _ _ ⟨_, _, _, _, _, _, _, _, _, _, _, _, _, _, _, _, _, _, _, _, _, _, rfl, hJ.up HOK.out 13 (by decide) (show 13 < 22 by decide) rfl⟩
        · obtain rfl := Option.some.inj ho
          have d13 : x13 = .int .i64 (m : Int) := hJ.val 13 (show 13 < 22 by decide) (by decide) (getD_upJ (hd ⟨13, .data⟩ (by simp) (by rfl)))
          subst d13
          refine wpOp_of_list (by rfl) ?_
          go_wp2
          exact HK.out _ _ ⟨_, _, _, _, _, _, _, _, _, _, _, _, _, _, _, _, _, _, _, _, _, _, rfl, hJ.up HOK.out 14 (by decide) (show 14 < 22 by decide) rfl⟩
        · obtain rfl := Option.some.inj ho
          refine wpOp_of_list (by rfl) ?_
          go_wp2
          exact HK.out _ _ ⟨_, _, _, _, _, _, _, _, _, _, _, _, _, _, _, _, _, _, _, _, _, _, rfl, hJ.up HOK.out 15 (by decide) (show 15 < 22 by decide) rfl⟩
        · obtain rfl := Option.some.inj ho
          have d14 : x14 = .int .u64 (m : Int) := hJ.val 14 (show 14 < 22 by decide) (by decide) (getD_upJ (hd ⟨14, .data⟩ (by simp) (by rfl)))
          have d15 : x15 = .int .u64 (g : Int) := hJ.val 15 (show 15 < 22 by decide) (by decide) (getD_upJ (hd ⟨15, .data⟩ (by simp) (by rfl)))
          subst d14 d15
          refine wpOp_of_list (by rfl) ?_
          go_wp2
          exact HK.out _ _ ⟨_, _, _, _, _, _, _, _, _, _, _, _, _, _, _, _, _, _, _, _, _, _, rfl, hJ.up HOK.out 16 (by decide) (show 16 < 22 by decide) rfl⟩
        · obtain rfl := Option.some.inj ho
          have d11 : x11 = .int .u64 (q : Int) := hJ.val 11 (show 11 < 22 by decide) (by decide) (getD_upJ (hd ⟨11, .data⟩ (by simp) (by rfl)))
          have d16 : x16 = .int .u64 (m' : Int) := hJ.val 16 (show 16 < 22 by decide) (by decide) (getD_upJ (hd ⟨16, .data⟩ (by simp) (by rfl)))
          subst d11 d16
          refine wpOp_of_list (by rfl) ?_
          go_wp2_with fail
          go_at_call 59; refine (HP2.out _).mono ?_; rintro e w' ⟨rfl, xq, rfl⟩
          go_wp2
          exact HK.out _ _ ⟨_, _, _, _, _, _, _, _, _, _, _, _, _, _, _, _, _, _, _, _, _, _, rfl, (hJ.grow _).up HOK.out 17 (by decide) (show 17 < 22 by decide) rfl⟩
        · obtain rfl := Option.some.inj ho
          refine wpOp_of_list (by rfl) ?_
          go_wp2
          exact HK.out _ _ ⟨_, _, _, _, _, _, _, _, _, _, _, _, _, _, _, _, _, _, _, _, _, _, rfl, hJ.make HOK.out ⟨18, 20, 112, #[.int .u64 0, .int .u64 (X : Int)]⟩ (by simp) (show 18 < 22 by decide) hun #[.int .u64 0, .int .u64 0] rfl rfl⟩
        · obtain rfl := Option.some.inj ho
          refine wpOp_of_list (by rfl) ?_
          go_wp2
          exact HK.out _ _ ⟨_, _, _, _, _, _, _, _, _, _, _, _, _, _, _, _, _, _, _, _, _, _, rfl, hJ.make HOK.out ⟨19, 21, 112, #[.int .u64 0, .int .u64 (Y : Int)]⟩ (by simp) (show 19 < 22 by decide) hun #[.int .u64 0, .int .u64 0] rfl rfl⟩
        · obtain rfl := Option.some.inj ho
          have d8 : x8 = .agg #[.int .u64 0, .int .u64 (X : Int)] := hJ.val 8 (show 8 < 22 by decide) (by decide) (getD_upJ (hd ⟨8, .data⟩ (by simp) (by rfl)))
          have hka := getD_upJ (hd ⟨18, .data⟩ (by simp) (by rfl))
          obtain ⟨gq, hs, hg, cs, hcs, hb, -⟩ := hJ.made ⟨18, 20, 112, #[.int .u64 0, .int .u64 (X : Int)]⟩ (by simp) hka
          have hs2 : x18 = .pointer (some ⟨gq, 0, none⟩) := hs
          obtain ⟨qa0, qh0⟩ : ∃ a, cs[0]? = some a := ⟨_, Array.getElem?_eq_getElem (by rw [hcs]; exact (show 0 < 2 by decide))⟩
          obtain ⟨qa1, qh1⟩ : ∃ a, cs[1]? = some a := ⟨_, Array.getElem?_eq_getElem (by rw [hcs]; exact (show 1 < 2 by decide))⟩
          have qf0 : W.frozen? ⟨gq, 0, none⟩ = false := hb.frozen 0
          have qg0 : W.cell? ⟨gq, 0, none⟩ = some qa0 := (hb.cell 0).trans qh0
          have qf1 : W.frozen? ⟨gq, 1, none⟩ = false := hb.frozen 1
          have qg1 : W.cell? ⟨gq, 1, none⟩ = some qa1 := (hb.cell 1).trans qh1
          subst d8
          subst hs2
          refine wpOp_of_list (by rfl) ?_
          go_wp2
          refine HK.out _ _ ⟨_, _, _, _, _, _, _, _, _, _, _, _, _, _, _, _, _, _, _, _, _, _, rfl, hJ.fill HOK.out ⟨18, 20, 112, #[.int .u64 0, .int .u64 (X : Int)]⟩ (by simp) hka hs hg ((hJ.below.setCell hg _).setCell hg _) (fun k hk => by rw [Below.heap_setCell _ _ _ _ hk, Below.heap_setCell _ _ _ _ hk]) ?_⟩
          show Blk _ gq #[.int .u64 0, .int .u64 (X : Int)] _
          rw [← fill2 (a := .int .u64 0) (b := .int .u64 (X : Int)) hcs]
          exact ((hb.set 0 _).set 1 _)
        · obtain rfl := Option.some.inj ho
          have d17 : x17 = .agg #[.int .u64 0, .int .u64 (Y : Int)] := hJ.val 17 (show 17 < 22 by decide) (by decide) (getD_upJ (hd ⟨17, .data⟩ (by simp) (by rfl)))
          have hka := getD_upJ (hd ⟨19, .data⟩ (by simp) (by rfl))
          obtain ⟨gq, hs, hg, cs, hcs, hb, -⟩ := hJ.made ⟨19, 21, 112, #[.int .u64 0, .int .u64 (Y : Int)]⟩ (by simp) hka
          have hs2 : x19 = .pointer (some ⟨gq, 0, none⟩) := hs
          obtain ⟨qa0, qh0⟩ : ∃ a, cs[0]? = some a := ⟨_, Array.getElem?_eq_getElem (by rw [hcs]; exact (show 0 < 2 by decide))⟩
          obtain ⟨qa1, qh1⟩ : ∃ a, cs[1]? = some a := ⟨_, Array.getElem?_eq_getElem (by rw [hcs]; exact (show 1 < 2 by decide))⟩
          have qf0 : W.frozen? ⟨gq, 0, none⟩ = false := hb.frozen 0
          have qg0 : W.cell? ⟨gq, 0, none⟩ = some qa0 := (hb.cell 0).trans qh0
          have qf1 : W.frozen? ⟨gq, 1, none⟩ = false := hb.frozen 1
          have qg1 : W.cell? ⟨gq, 1, none⟩ = some qa1 := (hb.cell 1).trans qh1
          subst d17
          subst hs2
          refine wpOp_of_list (by rfl) ?_
          go_wp2
          refine HK.out _ _ ⟨_, _, _, _, _, _, _, _, _, _, _, _, _, _, _, _, _, _, _, _, _, _, rfl, hJ.fill HOK.out ⟨19, 21, 112, #[.int .u64 0, .int .u64 (Y : Int)]⟩ (by simp) hka hs hg ((hJ.below.setCell hg _).setCell hg _) (fun k hk => by rw [Below.heap_setCell _ _ _ _ hk, Below.heap_setCell _ _ _ _ hk]) ?_⟩
          show Blk _ gq #[.int .u64 0, .int .u64 (Y : Int)] _
          rw [← fill2 (a := .int .u64 0) (b := .int .u64 (Y : Int)) hcs]
          exact ((hb.set 0 _).set 1 _)
      · intro vs L W hlen hJ hall
        clear hok
        obtain ⟨x0, vs0, rfl, hlen0⟩ := len_cons hlen
        obtain ⟨x1, vs1, rfl, hlen1⟩ := len_cons hlen0
        obtain ⟨x2, vs2, rfl, hlen2⟩ := len_cons hlen1
        obtain ⟨x3, vs3, rfl, hlen3⟩ := len_cons hlen2
        obtain ⟨x4, vs4, rfl, hlen4⟩ := len_cons hlen3
        obtain ⟨x5, vs5, rfl, hlen5⟩ := len_cons hlen4
        obtain ⟨x6, vs6, rfl, hlen6⟩ := len_cons hlen5
        obtain ⟨x7, vs7, rfl, hlen7⟩ := len_cons hlen6
        obtain ⟨x8, vs8, rfl, hlen8⟩ := len_cons hlen7
        obtain ⟨x9, vs9, rfl, hlen9⟩ := len_cons hlen8
        obtain ⟨x10, vs10, rfl, hlen10⟩ := len_cons hlen9
        obtain ⟨x11, vs11, rfl, hlen11⟩ := len_cons hlen10
        obtain ⟨x12, vs12, rfl, hlen12⟩ := len_cons hlen11
        obtain ⟨x13, vs13, rfl, hlen13⟩ := len_cons hlen12
        obtain ⟨x14, vs14, rfl, hlen14⟩ := len_cons hlen13
        obtain ⟨x15, vs15, rfl, hlen15⟩ := len_cons hlen14
        obtain ⟨x16, vs16, rfl, hlen16⟩ := len_cons hlen15
        obtain ⟨x17, vs17, rfl, hlen17⟩ := len_cons hlen16
        obtain ⟨x18, vs18, rfl, hlen18⟩ := len_cons hlen17
        obtain ⟨x19, vs19, rfl, hlen19⟩ := len_cons hlen18
        obtain ⟨x20, vs20, rfl, hlen20⟩ := len_cons hlen19
        obtain ⟨x21, vs21, rfl, hlen21⟩ := len_cons hlen20
        obtain rfl := len_nil hlen21
        clear hlen hlen0 hlen1 hlen2 hlen3 hlen4 hlen5 hlen6 hlen7 hlen8 hlen9 hlen10 hlen11 hlen12 hlen13 hlen14 hlen15 hlen16 hlen17 hlen18 hlen19 hlen20 hlen21
        obtain ⟨g0, hs0, hg0, cs0, -, hk0, hc0⟩ := hJ.made ⟨18, 20, 112, #[.int .u64 0, .int .u64 (X : Int)]⟩ (by simp) (hall 18 (of_decide_eq_true (by kernel_rfl)))
        obtain rfl : cs0 = #[.int .u64 0, .int .u64 (X : Int)] := hc0 (hall 20 (of_decide_eq_true (by kernel_rfl)))
        obtain ⟨g1, hs1, hg1, cs1, -, hk1, hc1⟩ := hJ.made ⟨19, 21, 112, #[.int .u64 0, .int .u64 (Y : Int)]⟩ (by simp) (hall 19 (of_decide_eq_true (by kernel_rfl)))
        obtain rfl : cs1 = #[.int .u64 0, .int .u64 (Y : Int)] := hc1 (hall 21 (of_decide_eq_true (by kernel_rfl)))
        have d0 : x0 = .pointer (some ⟨w.heap.size, 0, none⟩) := hJ.val 0 (show 0 < 22 by decide) (by decide) (hall 0 (of_decide_eq_true (by kernel_rfl)))
        have d1 : x1 = .int .i64 (p : Int) := hJ.val 1 (show 1 < 22 by decide) (by decide) (hall 1 (of_decide_eq_true (by kernel_rfl)))
        have d2 : x2 = .int .u64 (p : Int) := hJ.val 2 (show 2 < 22 by decide) (by decide) (hall 2 (of_decide_eq_true (by kernel_rfl)))
        have d3 : x3 = .pointer (some ⟨w.heap.size + 1, 1, none⟩) := hJ.val 3 (show 3 < 22 by decide) (by decide) (hall 3 (of_decide_eq_true (by kernel_rfl)))
        have d4 : x4 = .int .i64 (n : Int) := hJ.val 4 (show 4 < 22 by decide) (by decide) (hall 4 (of_decide_eq_true (by kernel_rfl)))
        have d5 : x5 = .int .u64 (n : Int) := hJ.val 5 (show 5 < 22 by decide) (by decide) (hall 5 (of_decide_eq_true (by kernel_rfl)))
        have d6 : x6 = .int .u64 (g : Int) := hJ.val 6 (show 6 < 22 by decide) (by decide) (hall 6 (of_decide_eq_true (by kernel_rfl)))
        have d7 : x7 = .int .u64 (n' : Int) := hJ.val 7 (show 7 < 22 by decide) (by decide) (hall 7 (of_decide_eq_true (by kernel_rfl)))
        have d8 : x8 = .agg #[.int .u64 0, .int .u64 (X : Int)] := hJ.val 8 (show 8 < 22 by decide) (by decide) (hall 8 (of_decide_eq_true (by kernel_rfl)))
        have d9 : x9 = .pointer (some ⟨w.heap.size + 1, 0, none⟩) := hJ.val 9 (show 9 < 22 by decide) (by decide) (hall 9 (of_decide_eq_true (by kernel_rfl)))
        have d10 : x10 = .int .i64 (q : Int) := hJ.val 10 (show 10 < 22 by decide) (by decide) (hall 10 (of_decide_eq_true (by kernel_rfl)))
        have d11 : x11 = .int .u64 (q : Int) := hJ.val 11 (show 11 < 22 by decide) (by decide) (hall 11 (of_decide_eq_true (by kernel_rfl)))
        have d12 : x12 = .pointer (some ⟨w.heap.size, 1, none⟩) := hJ.val 12 (show 12 < 22 by decide) (by decide) (hall 12 (of_decide_eq_true (by kernel_rfl)))
        have d13 : x13 = .int .i64 (m : Int) := hJ.val 13 (show 13 < 22 by decide) (by decide) (hall 13 (of_decide_eq_true (by kernel_rfl)))
        have d14 : x14 = .int .u64 (m : Int) := hJ.val 14 (show 14 < 22 by decide) (by decide) (hall 14 (of_decide_eq_true (by kernel_rfl)))
        have d15 : x15 = .int .u64 (g : Int) := hJ.val 15 (show 15 < 22 by decide) (by decide) (hall 15 (of_decide_eq_true (by kernel_rfl)))
        have d16 : x16 = .int .u64 (m' : Int) := hJ.val 16 (show 16 < 22 by decide) (by decide) (hall 16 (of_decide_eq_true (by kernel_rfl)))
        have d17 : x17 = .agg #[.int .u64 0, .int .u64 (Y : Int)] := hJ.val 17 (show 17 < 22 by decide) (by decide) (hall 17 (of_decide_eq_true (by kernel_rfl)))
        have e0 : x18 = .pointer (some ⟨g0, 0, none⟩) := hs0
        have e1 : x19 = .pointer (some ⟨g1, 0, none⟩) := hs1
        have hbel := hJ.below
        clear hJ hall hs0 hs1 hc0 hc1
        subst d0 d1 d2 d3 d4 d5 d6 d7 d8 d9 d10 d11 d12 d13 d14 d15 d16 d17 e0 e1
        simp only [putAll_cons, putAll_nil, put_some, put_none, List.setIfInBounds_toArray, List.set_cons_succ, List.set_cons_zero]
        have HBW := Lib.hid hbel
        have HK0 := Lib.hid hk0
        have HK1 := Lib.hid hk1
        clear hbel hk0 hk1 hg0 hg1
        go_wp2_with fail
        go_meet
        exact ⟨g0, g1, rfl, rfl, HK0.out, HK1.out, HBW.out⟩
    case rest =>
      obtain ⟨g7, g8, rfl, rfl, hk7, hk8, hbl⟩ := hcut
      obtain ⟨W2, rfl⟩ : ∃ W : World, W = wc := ⟨_, rfl⟩
      have HB2 := Lib.hid (HB1.out.trans (hbl.mono HB1.out.size))
      obtain ⟨z, ez⟩ := ext_of hbl
      have hfa := HFA.out.ext z
      have hfb := HFB.out.ext z
      rw [← ez] at hfa hfb
      obtain ⟨ca0, ca1⟩ := hfa
      obtain ⟨cb0, cb1⟩ := hfb
      have c70 : W2.cell? ⟨g7, 0, none⟩ = some (.int .u64 0) := (hk7.cell 0).trans rfl
      have c71 : W2.cell? ⟨g7, 1, none⟩ = some (.int .u64 (X : Int)) := (hk7.cell 1).trans rfl
      have c80 : W2.cell? ⟨g8, 0, none⟩ = some (.int .u64 0) := (hk8.cell 0).trans rfl
      have c81 : W2.cell? ⟨g8, 1, none⟩ = some (.int .u64 (Y : Int)) := (hk8.cell 1).trans rfl
      have hr2 : Blk W2 (w.heap.size + 1 + 1) #[.int .i64 0, .int .i64 0] 52 := by rw [ez]; exact HRB.out.ext z
      have cr0 : W2.cell? ⟨w.heap.size + 1 + 1, 0, none⟩ = some (.int .i64 0) := (hr2.cell 0).trans rfl
      have cr1 : W2.cell? ⟨w.heap.size + 1 + 1, 1, none⟩ = some (.int .i64 0) := (hr2.cell 1).trans rfl
      have fr0 := hr2.frozen 0
      have fr1 := hr2.frozen 1
      have HR2 := Lib.hid hr2
      clear hk7 hk8 hbl ez hr2
      go_wp2_with fail
      go_at_call 61; refine (HPL.out _).mono ?_; rintro e w' ⟨rfl, x4, rfl⟩
      go_wp2
      rw [HF.out]
      have s0 := (((HR2.out.set 0 (.int .i64 0)).set 1 (.int .i64 1)).cell 0).trans rfl
      have s1 := (((HR2.out.set 0 (.int .i64 0)).set 1 (.int .i64 1)).cell 1).trans rfl
      refine bodyPost_ret (v := .tuple #[.agg #[.int .i64 0, .int .i64 1], .int .i64 0]) (by simp [results, Tryz.results26, go_sem, s0, s1]) rfl ?_
      exact Ret.of (by repeat (first | exact HB2.out | refine below_setR ?_ (by simp only; omega) _ | refine grow_ext _ ?_ | refine grow_alloc _ ?_ | refine grow_drew ?_))
  · obtain ⟨hc0, r1, r2⟩ := HNZ.out hs0
    have hcg : c ≤ g := by rw [HC.out]; exact Nat.gcd_le_left _ hg0
    have hsc := Nat.div_le_self s c
    have hnc := Nat.div_le_self n c
    have HO2 := Lib.hid (fun w => overW_c s c (by omega) hc0 (by omega) w)
    have hmn : m' * (n / c) ≤ D := by rw [r2]; exact Nat.div_le_self _ _
    have HP3 := Lib.hid (fun w => product_c m' (n / c) (by omega) (by omega) (by omega) w)
    have hci : (c : Int) ≠ 0 := by omega
    have t3 : Int.tdiv (n : Int) (c : Int) = ((n / c : Nat) : Int) := rfl
    have d5 : ((s : Int) == 0) = false := by simp; omega
    have HF := Lib.hid (show fracV (A + B) D = .agg #[.int .i64 ((s / c : Nat) : Int), .int .i64 ((m' * (n / c) : Nat) : Int)] by rw [r1, r2]; rfl)
    have HSG := Lib.hid (fun w => signed_c (s / c) (m' * (n / c)) (by omega) (by omega) w)
    obtain ⟨Z, hZ⟩ : ∃ Z, m' * (n / c) = Z := ⟨_, rfl⟩
    rw [hZ] at HP3 HF HSG
    obtain ⟨k, hk⟩ : ∃ k, n / c = k := ⟨_, rfl⟩
    rw [hk] at HP3 t3 hnc
    obtain ⟨j, hj⟩ : ∃ j, s / c = j := ⟨_, rfl⟩
    rw [hj] at HO2 HF HSG
    obtain ⟨i, hi⟩ : ∃ i, s % c = i := ⟨_, rfl⟩
    rw [hi] at HO2
    obtain ⟨o, ho⟩ : ∃ o, s % g = o := ⟨_, rfl⟩
    rw [ho] at HO HG2
    obtain ⟨o2, ho2⟩ : ∃ o2, s / g = o2 := ⟨_, rfl⟩
    rw [ho2] at HO
    have w5 : IntKind.u64.wrap (k : Int) = (k : Int) := by rw [IntKind.wrap_u64]; omega
    clear hs0 r1 r2 hZ hk hj hi ho ho2 hcg hsc hmn hsg
    go_enter Tryz.func26, Tryz.ntmps26
    go_wp2_with fail
    go_at_call 57; refine (HV1.out _).mono ?_; rintro e w' ⟨rfl, x1, rfl⟩
    go_wp2_with fail
    go_at_call 57; refine (HV2.out _).mono ?_; rintro e w' ⟨rfl, x2, rfl⟩
    go_wp2_with fail
    go_at_call 58; refine (HG.out _).mono ?_; rintro e w' ⟨rfl, x3, rfl⟩
    go_wp2_with fail
    refine world_mask (fun W => Below w.heap.size w W ∧ FrAt W w.heap.size p m ∧ FrAt W (w.heap.size + 1) q n ∧ Blk W (w.heap.size + 1 + 1) #[.int .i64 0, .int .i64 0] 52) _ ⟨by (repeat (first | exact grow_refl _ | refine grow_ext _ ?_ | refine grow_alloc _ ?_ | refine grow_drew ?_)), by simp [FrAt, go_sem], by simp [FrAt, go_sem], (((Blk.new' (by simp) _ _).ext _).ext _).ext _⟩ ?_
    rintro W1 ⟨hb1, hfa, hfb, hrb⟩
    have HRB := Lib.hid hrb
    have HB1 := Lib.hid hb1
    have HFA := Lib.hid hfa
    have HFB := Lib.hid hfb
    clear hb1 hfa hfb hrb
    go_cut [7, 8] (fun s7 s8 wx => ∃ g7 g8, s7 = .pointer (some ⟨g7, 0, none⟩) ∧ s8 = .pointer (some ⟨g8, 0, none⟩) ∧ Blk wx g7 #[.int .u64 0, .int .u64 (X : Int)] 112 ∧ Blk wx g8 #[.int .u64 0, .int .u64 (Y : Int)] 112 ∧ Below W1.heap.size W1 wx)
    case first =>
      have hok : mkOk [18, 20, 19, 21] [⟨18, 20, 112, #[.int .u64 0, .int .u64 (X : Int)]⟩, ⟨19, 21, 112, #[.int .u64 0, .int .u64 (Y : Int)]⟩] := mkOk_two (by decide)
      refine wp_region_M [.pointer (some ⟨w.heap.size, 0, none⟩), .int .i64 (p : Int), .int .u64 (p : Int), .pointer (some ⟨w.heap.size + 1, 1, none⟩), .int .i64 (n : Int), .int .u64 (n : Int), .int .u64 (g : Int), .int .u64 (n' : Int), .agg #[.int .u64 0, .int .u64 (X : Int)], .pointer (some ⟨w.heap.size + 1, 0, none⟩), .int .i64 (q : Int), .int .u64 (q : Int), .pointer (some ⟨w.heap.size, 1, none⟩), .int .i64 (m : Int), .int .u64 (m : Int), .int .u64 (g : Int), .int .u64 (m' : Int), .agg #[.int .u64 0, .int .u64 (Y : Int)], undef, undef, undef, undef] [18, 20, 19, 21] [⟨18, 20, 112, #[.int .u64 0, .int .u64 (X : Int)]⟩, ⟨19, 21, 112, #[.int .u64 0, .int .u64 (Y : Int)]⟩] (by kernel_rfl) (by kernel_rfl) ?_ ?_ ?_
      · intro b hb
        simp only [List.mem_cons, List.not_mem_nil, or_false] at hb
        rcases hb with rfl | rfl
        all_goals exact ⟨of_decide_eq_true (by kernel_rfl), of_decide_eq_true (by kernel_rfl)⟩
      · intro L vs W i hlen hJ hi
        obtain ⟨x0, vs0, rfl, hlen0⟩ := len_cons hlen
        obtain ⟨x1, vs1, rfl, hlen1⟩ := len_cons hlen0
        obtain ⟨x2, vs2, rfl, hlen2⟩ := len_cons hlen1
        obtain ⟨x3, vs3, rfl, hlen3⟩ := len_cons hlen2
        obtain ⟨x4, vs4, rfl, hlen4⟩ := len_cons hlen3
        obtain ⟨x5, vs5, rfl, hlen5⟩ := len_cons hlen4
        obtain ⟨x6, vs6, rfl, hlen6⟩ := len_cons hlen5
        obtain ⟨x7, vs7, rfl, hlen7⟩ := len_cons hlen6
        obtain ⟨x8, vs8, rfl, hlen8⟩ := len_cons hlen7
        obtain ⟨x9, vs9, rfl, hlen9⟩ := len_cons hlen8
        obtain ⟨x10, vs10, rfl, hlen10⟩ := len_cons hlen9
        obtain ⟨x11, vs11, rfl, hlen11⟩ := len_cons hlen10
        obtain ⟨x12, vs12, rfl, hlen12⟩ := len_cons hlen11
        obtain ⟨x13, vs13, rfl, hlen13⟩ := len_cons hlen12
        obtain ⟨x14, vs14, rfl, hlen14⟩ := len_cons hlen13
        obtain ⟨x15, vs15, rfl, hlen15⟩ := len_cons hlen14
        obtain ⟨x16, vs16, rfl, hlen16⟩ := len_cons hlen15
        obtain ⟨x17, vs17, rfl, hlen17⟩ := len_cons hlen16
        obtain ⟨x18, vs18, rfl, hlen18⟩ := len_cons hlen17
        obtain ⟨x19, vs19, rfl, hlen19⟩ := len_cons hlen18
        obtain ⟨x20, vs20, rfl, hlen20⟩ := len_cons hlen19
        obtain ⟨x21, vs21, rfl, hlen21⟩ := len_cons hlen20
        obtain rfl := len_nil hlen21
        clear hlen hlen0 hlen1 hlen2 hlen3 hlen4 hlen5 hlen6 hlen7 hlen8 hlen9 hlen10 hlen11 hlen12 hlen13 hlen14 hlen15 hlen16 hlen17 hlen18 hlen19 hlen20 hlen21
        obtain ⟨hun, o, ho, hd⟩ := mem_ready.1 hi
        have hin : i < 22 := by have := (Array.getElem?_eq_some_iff.1 ho).1; simpa using this
        refine wpOp_free (B := fun a' W' => ∃ x0 x1 x2 x3 x4 x5 x6 x7 x8 x9 x10 x11 x12 x13 x14 x15 x16 x17 x18 x19 x20 x21, a' = putAll _ [x0, x1, x2, x3, x4, x5, x6, x7, x8, x9, x10, x11, x12, x13, x14, x15, x16, x17, x18, x19, x20, x21] _ ∧ InvM _ _ _ _ [x0, x1, x2, x3, x4, x5, x6, x7, x8, x9, x10, x11, x12, x13, x14, x15, x16, x17, x18, x19, x20, x21] (L.setIfInBounds i true) W') (fun _ _ h => by obtain ⟨x0, x1, x2, x3, x4, x5, x6, x7, x8, x9, x10, x11, x12, x13, x14, x15, x16, x17, x18, x19, x20, x21, h1, h2⟩ := h; exact ⟨[x0, x1, x2, x3, x4, x5, x6, x7, x8, x9, x10, x11, x12, x13, x14, x15, x16, x17, x18, x19, x20, x21], rfl, h1, h2⟩) ?_
        intro K HK
        simp only [putAll_cons, putAll_nil, put_some, put_none, List.setIfInBounds_toArray, List.set_cons_succ, List.set_cons_zero] at HK ⊢
        have HOK := Lib.hid hok
        clear hok
        obtain ⟨z, ez⟩ := ext_of hJ.below
        have hfa := HFA.out.ext z
        have hfb := HFB.out.ext z
        rw [← ez] at hfa hfb
        obtain ⟨ca0, ca1⟩ := hfa
        obtain ⟨cb0, cb1⟩ := hfb
        clear ez
        rcases (show i = 0 ∨ i = 1 ∨ i = 2 ∨ i = 3 ∨ i = 4 ∨ i = 5 ∨ i = 6 ∨ i = 7 ∨ i = 8 ∨ i = 9 ∨ i = 10 ∨ i = 11 ∨ i = 12 ∨ i = 13 ∨ i = 14 ∨ i = 15 ∨ i = 16 ∨ i = 17 ∨ i = 18 ∨ i = 19 ∨ i = 20 ∨ i = 21 by omega) with rfl | rfl | rfl | rfl | rfl | rfl | rfl | rfl | rfl | rfl | rfl | rfl | rfl | rfl | rfl | rfl | rfl | rfl | rfl | rfl | rfl | rfl
        · obtain rfl := Option.some.inj ho
          refine wpOp_of_list (by rfl) ?_
          go_wp2
          exact HK.out _ _ ⟨_, _, _, _, _, _, _, _, _, _, _, _, _, _, _, _, _, _, _, _, _, _, rfl, hJ.up HOK.out 0 (by decide) (show 0 < 22 by decide) rfl⟩
        · obtain rfl := Option.some.inj ho
          have d0 : x0 = .pointer (some ⟨w.heap.size, 0, none⟩) := hJ.val 0 (show 0 < 22 by decide) (by decide) (getD_upJ (hd ⟨0, .data⟩ (by simp) (by rfl)))
          subst d0
          refine wpOp_of_list (by rfl) ?_
          go_wp2
          exact HK.out _ _ ⟨_, _, _, _, _, _, _, _, _, _, _, _, _, _, _, _, _, _, _, _, _, _, rfl, hJ.up HOK.out 1 (by decide) (show 1 < 22 by decide) rfl⟩
        · obtain rfl := Option.some.inj ho
          have d1 : x1 = .int .i64 (p : Int) := hJ.val 1 (show 1 < 22 by decide) (by decide) (getD_upJ (hd ⟨1, .data⟩ (by simp) (by rfl)))
          subst d1
          refine wpOp_of_list (by rfl) ?_
          go_wp2_with fail
          go_at_call 60; refine (HS1.out _).mono ?_; rintro e w' ⟨rfl, xq, rfl⟩
          go_wp2
          exact HK.out _ _ ⟨_, _, _, _, _, _, _, _, _, _, _, _, _, _, _, _, _, _, _, _, _, _, rfl, (hJ.grow _).up HOK.out 2 (by decide) (show 2 < 22 by decide) rfl⟩
        · obtain rfl := Option.some.inj ho
          refine wpOp_of_list (by rfl) ?_
          go_wp2
          exact HK.out _ _ ⟨_, _, _, _, _, _, _, _, _, _, _, _, _, _, _, _, _, _, _, _, _, _, rfl, hJ.up HOK.out 3 (by decide) (show 3 < 22 by decide) rfl⟩
        · obtain rfl := Option.some.inj ho
          have d3 : x3 = .pointer (some ⟨w.heap.size + 1, 1, none⟩) := hJ.val 3 (show 3 < 22 by decide) (by decide) (getD_upJ (hd ⟨3, .data⟩ (by simp) (by rfl)))
          subst d3
          refine wpOp_of_list (by rfl) ?_
          go_wp2
          exact HK.out _ _ ⟨_, _, _, _, _, _, _, _, _, _, _, _, _, _, _, _, _, _, _, _, _, _, rfl, hJ.up HOK.out 4 (by decide) (show 4 < 22 by decide) rfl⟩
        · obtain rfl := Option.some.inj ho
          have d4 : x4 = .int .i64 (n : Int) := hJ.val 4 (show 4 < 22 by decide) (by decide) (getD_upJ (hd ⟨4, .data⟩ (by simp) (by rfl)))
          subst d4
          refine wpOp_of_list (by rfl) ?_
          go_wp2
          exact HK.out _ _ ⟨_, _, _, _, _, _, _, _, _, _, _, _, _, _, _, _, _, _, _, _, _, _, rfl, hJ.up HOK.out 5 (by decide) (show 5 < 22 by decide) rfl⟩
        · obtain rfl := Option.some.inj ho
          refine wpOp_of_list (by rfl) ?_
          go_wp2
          exact HK.out _ _ ⟨_, _, _, _, _, _, _, _, _, _, _, _, _, _, _, _, _, _, _, _, _, _, rfl, hJ.up HOK.out 6 (by decide) (show 6 < 22 by decide) rfl⟩
        · obtain rfl := Option.some.inj ho
          have d5 : x5 = .int .u64 (n : Int) := hJ.val 5 (show 5 < 22 by decide) (by decide) (getD_upJ (hd ⟨5, .data⟩ (by simp) (by rfl)))
          have d6 : x6 = .int .u64 (g : Int) := hJ.val 6 (show 6 < 22 by decide) (by decide) (getD_upJ (hd ⟨6, .data⟩ (by simp) (by rfl)))
          subst d5 d6
          refine wpOp_of_list (by rfl) ?_
          go_wp2
          exact HK.out _ _ ⟨_, _, _, _, _, _, _, _, _, _, _, _, _, _, _, _, _, _, _, _, _, _, rfl, hJ.up HOK.out 7 (by decide) (show 7 < 22 by decide) rfl⟩
        · obtain rfl := Option.some.inj ho
          have d2 : x2 = .int .u64 (p : Int) := hJ.val 2 (show 2 < 22 by decide) (by decide) (getD_upJ (hd ⟨2, .data⟩ (by simp) (by rfl)))
          have d7 : x7 = .int .u64 (n' : Int) := hJ.val 7 (show 7 < 22 by decide) (by decide) (getD_upJ (hd ⟨7, .data⟩ (by simp) (by rfl)))
          subst d2 d7
          refine wpOp_of_list (by rfl) ?_
          go_wp2_with fail
          go_at_call 59; refine (HP1.out _).mono ?_; rintro e w' ⟨rfl, xq, rfl⟩
          go_wp2
          exact HK.out _ _ ⟨_, _, _, _, _, _, _, _, _, _, _, _, _, _, _, _, _, _, _, _, _, _, rfl, (hJ.grow _).up HOK.out 8 (by decide) (show 8 < 22 by decide) rfl⟩
        · obtain rfl := Option.some.inj ho
          refine wpOp_of_list (by rfl) ?_
          go_wp2
          exact HK.out _ _ ⟨_, _, _, _, _, _, _, _, _, _, _, _, _, _, _, _, _, _, _, _, _, _, rfl, hJ.up HOK.out 9 (by decide) (show 9 < 22 by decide) rfl⟩
        · obtain rfl := Option.some.inj ho
          have d9 : x9 = .pointer (some ⟨w.heap.size + 1, 0, none⟩) := hJ.val 9 (show 9 < 22 by decide) (by decide) (getD_upJ (hd ⟨9, .data⟩ (by simp) (by rfl)))
          subst d9
          refine wpOp_of_list (by rfl) ?_
          go_wp2
          exact HK.out _ _ ⟨_, _, _, _, _, _, _, _, _, _, _, _, _, _, _, _, _, _, _, _, _, _, rfl, hJ.up HOK.out 10 (by decide) (show 10 < 22 by decide) rfl⟩
        · obtain rfl := Option.some.inj ho
          have d10 : x10 = .int .i64 (q : Int) := hJ.val 10 (show 10 < 22 by decide) (by decide) (getD_upJ (hd ⟨10, .data⟩ (by simp) (by rfl)))
          subst d10
          refine wpOp_of_list (by rfl) ?_
          go_wp2_with fail
          go_at_call 60; refine (HS2.out _).mono ?_; rintro e w' ⟨rfl, xq, rfl⟩
          go_wp2
          exact HK.out _ _ ⟨_, _, _, _, _, _, _, _, _, _, _, _, _, _, _, _, _, _, _, _, _, _, rfl, (hJ.grow _).up HOK.out 11 (by decide) (show 11 < 22 by decide) rfl⟩
        · obtain rfl := Option.some.inj ho
          refine wpOp_of_list (by rfl) ?_
          go_wp2
          exact HK.out _ _ ⟨_, _, _, _, _, _, _, _, _, _, _, _, _, _, _, _, _, _, _, _, _, _, rfl, hJ.up HOK.out 12 (by decide) (show 12 < 22 by decide) rfl⟩
        · obtain rfl := Option.some.inj ho
          have d12 : x12 = .pointer (some ⟨w.heap.size, 1, none⟩) := hJ.val 12 (show 12 < 22 by decide) (by decide) (getD_upJ (hd ⟨12, .data⟩ (by simp) (by rfl)))
          subst d12
          refine wpOp_of_list (by rfl) ?_
          go_wp2
          exact HK.out _ _ ⟨_, _, _, _, _, _, _, _, _, _, _, _, _, _, _, _, _, _, _, _, _, _, rfl, hJ.up HOK.out 13 (by decide) (show 13 < 22 by decide) rfl⟩
        · obtain rfl := Option.some.inj ho
          have d13 : x13 = .int .i64 (m : Int) := hJ.val 13 (show 13 < 22 by decide) (by decide) (getD_upJ (hd ⟨13, .data⟩ (by simp) (by rfl)))
          subst d13
          refine wpOp_of_list (by rfl) ?_
          go_wp2
          exact HK.out _ _ ⟨_, _, _, _, _, _, _, _, _, _, _, _, _, _, _, _, _, _, _, _, _, _, rfl, hJ.up HOK.out 14 (by decide) (show 14 < 22 by decide) rfl⟩
        · obtain rfl := Option.some.inj ho
          refine wpOp_of_list (by rfl) ?_
          go_wp2
          exact HK.out _ _ ⟨_, _, _, _, _, _, _, _, _, _, _, _, _, _, _, _, _, _, _, _, _, _, rfl, hJ.up HOK.out 15 (by decide) (show 15 < 22 by decide) rfl⟩
        · obtain rfl := Option.some.inj ho
          have d14 : x14 = .int .u64 (m : Int) := hJ.val 14 (show 14 < 22 by decide) (by decide) (getD_upJ (hd ⟨14, .data⟩ (by simp) (by rfl)))
          have d15 : x15 = .int .u64 (g : Int) := hJ.val 15 (show 15 < 22 by decide) (by decide) (getD_upJ (hd ⟨15, .data⟩ (by simp) (by rfl)))
          subst d14 d15
          refine wpOp_of_list (by rfl) ?_
          go_wp2
          exact HK.out _ _ ⟨_, _, _, _, _, _, _, _, _, _, _, _, _, _, _, _, _, _, _, _, _, _, rfl, hJ.up HOK.out 16 (by decide) (show 16 < 22 by decide) rfl⟩
        · obtain rfl := Option.some.inj ho
          have d11 : x11 = .int .u64 (q : Int) := hJ.val 11 (show 11 < 22 by decide) (by decide) (getD_upJ (hd ⟨11, .data⟩ (by simp) (by rfl)))
          have d16 : x16 = .int .u64 (m' : Int) := hJ.val 16 (show 16 < 22 by decide) (by decide) (getD_upJ (hd ⟨16, .data⟩ (by simp) (by rfl)))
          subst d11 d16
          refine wpOp_of_list (by rfl) ?_
          go_wp2_with fail
          go_at_call 59; refine (HP2.out _).mono ?_; rintro e w' ⟨rfl, xq, rfl⟩
          go_wp2
          exact HK.out _ _ ⟨_, _, _, _, _, _, _, _, _, _, _, _, _, _, _, _, _, _, _, _, _, _, rfl, (hJ.grow _).up HOK.out 17 (by decide) (show 17 < 22 by decide) rfl⟩
        · obtain rfl := Option.some.inj ho
          refine wpOp_of_list (by rfl) ?_
          go_wp2
          exact HK.out _ _ ⟨_, _, _, _, _, _, _, _, _, _, _, _, _, _, _, _, _, _, _, _, _, _, rfl, hJ.make HOK.out ⟨18, 20, 112, #[.int .u64 0, .int .u64 (X : Int)]⟩ (by simp) (show 18 < 22 by decide) hun #[.int .u64 0, .int .u64 0] rfl rfl⟩
        · obtain rfl := Option.some.inj ho
          refine wpOp_of_list (by rfl) ?_
          go_wp2
          exact HK.out _ _ ⟨_, _, _, _, _, _, _, _, _, _, _, _, _, _, _, _, _, _, _, _, _, _, rfl, hJ.make HOK.out ⟨19, 21, 112, #[.int .u64 0, .int .u64 (Y : Int)]⟩ (by simp) (show 19 < 22 by decide) hun #[.int .u64 0, .int .u64 0] rfl rfl⟩
        · obtain rfl := Option.some.inj ho
          have d8 : x8 = .agg #[.int .u64 0, .int .u64 (X : Int)] := hJ.val 8 (show 8 < 22 by decide) (by decide) (getD_upJ (hd ⟨8, .data⟩ (by simp) (by rfl)))
          have hka := getD_upJ (hd ⟨18, .data⟩ (by simp) (by rfl))
          obtain ⟨gq, hs, hg, cs, hcs, hb, -⟩ := hJ.made ⟨18, 20, 112, #[.int .u64 0, .int .u64 (X : Int)]⟩ (by simp) hka
          have hs2 : x18 = .pointer (some ⟨gq, 0, none⟩) := hs
          obtain ⟨qa0, qh0⟩ : ∃ a, cs[0]? = some a := ⟨_, Array.getElem?_eq_getElem (by rw [hcs]; exact (show 0 < 2 by decide))⟩
          obtain ⟨qa1, qh1⟩ : ∃ a, cs[1]? = some a := ⟨_, Array.getElem?_eq_getElem (by rw [hcs]; exact (show 1 < 2 by decide))⟩
          have qf0 : W.frozen? ⟨gq, 0, none⟩ = false := hb.frozen 0
          have qg0 : W.cell? ⟨gq, 0, none⟩ = some qa0 := (hb.cell 0).trans qh0
          have qf1 : W.frozen? ⟨gq, 1, none⟩ = false := hb.frozen 1
          have qg1 : W.cell? ⟨gq, 1, none⟩ = some qa1 := (hb.cell 1).trans qh1
          subst d8
          subst hs2
          refine wpOp_of_list (by rfl) ?_
          go_wp2
          refine HK.out _ _ ⟨_, _, _, _, _, _, _, _, _, _, _, _, _, _, _, _, _, _, _, _, _, _, rfl, hJ.fill HOK.out ⟨18, 20, 112, #[.int .u64 0, .int .u64 (X : Int)]⟩ (by simp) hka hs hg ((hJ.below.setCell hg _).setCell hg _) (fun k hk => by rw [Below.heap_setCell _ _ _ _ hk, Below.heap_setCell _ _ _ _ hk]) ?_⟩
          show Blk _ gq #[.int .u64 0, .int .u64 (X : Int)] _
          rw [← fill2 (a := .int .u64 0) (b := .int .u64 (X : Int)) hcs]
          exact ((hb.set 0 _).set 1 _)
        · obtain rfl := Option.some.inj ho
          have d17 : x17 = .agg #[.int .u64 0, .int .u64 (Y : Int)] := hJ.val 17 (show 17 < 22 by decide) (by decide) (getD_upJ (hd ⟨17, .data⟩ (by simp) (by rfl)))
          have hka := getD_upJ (hd ⟨19, .data⟩ (by simp) (by rfl))
          obtain ⟨gq, hs, hg, cs, hcs, hb, -⟩ := hJ.made ⟨19, 21, 112, #[.int .u64 0, .int .u64 (Y : Int)]⟩ (by simp) hka
          have hs2 : x19 = .pointer (some ⟨gq, 0, none⟩) := hs
          obtain ⟨qa0, qh0⟩ : ∃ a, cs[0]? = some a := ⟨_, Array.getElem?_eq_getElem (by rw [hcs]; exact (show 0 < 2 by decide))⟩
          obtain ⟨qa1, qh1⟩ : ∃ a, cs[1]? = some a := ⟨_, Array.getElem?_eq_getElem (by rw [hcs]; exact (show 1 < 2 by decide))⟩
          have qf0 : W.frozen? ⟨gq, 0, none⟩ = false := hb.frozen 0
          have qg0 : W.cell? ⟨gq, 0, none⟩ = some qa0 := (hb.cell 0).trans qh0
          have qf1 : W.frozen? ⟨gq, 1, none⟩ = false := hb.frozen 1
          have qg1 : W.cell? ⟨gq, 1, none⟩ = some qa1 := (hb.cell 1).trans qh1
          subst d17
          subst hs2
          refine wpOp_of_list (by rfl) ?_
          go_wp2
          refine HK.out _ _ ⟨_, _, _, _, _, _, _, _, _, _, _, _, _, _, _, _, _, _, _, _, _, _, rfl, hJ.fill HOK.out ⟨19, 21, 112, #[.int .u64 0, .int .u64 (Y : Int)]⟩ (by simp) hka hs hg ((hJ.below.setCell hg _).setCell hg _) (fun k hk => by rw [Below.heap_setCell _ _ _ _ hk, Below.heap_setCell _ _ _ _ hk]) ?_⟩
          show Blk _ gq #[.int .u64 0, .int .u64 (Y : Int)] _
          rw [← fill2 (a := .int .u64 0) (b := .int .u64 (Y : Int)) hcs]
          exact ((hb.set 0 _).set 1 _)
      · intro vs L W hlen hJ hall
        clear hok
        obtain ⟨x0, vs0, rfl, hlen0⟩ := len_cons hlen
        obtain ⟨x1, vs1, rfl, hlen1⟩ := len_cons hlen0
        obtain ⟨x2, vs2, rfl, hlen2⟩ := len_cons hlen1
        obtain ⟨x3, vs3, rfl, hlen3⟩ := len_cons hlen2
        obtain ⟨x4, vs4, rfl, hlen4⟩ := len_cons hlen3
        obtain ⟨x5, vs5, rfl, hlen5⟩ := len_cons hlen4
        obtain ⟨x6, vs6, rfl, hlen6⟩ := len_cons hlen5
        obtain ⟨x7, vs7, rfl, hlen7⟩ := len_cons hlen6
        obtain ⟨x8, vs8, rfl, hlen8⟩ := len_cons hlen7
        obtain ⟨x9, vs9, rfl, hlen9⟩ := len_cons hlen8
        obtain ⟨x10, vs10, rfl, hlen10⟩ := len_cons hlen9
        obtain ⟨x11, vs11, rfl, hlen11⟩ := len_cons hlen10
        obtain ⟨x12, vs12, rfl, hlen12⟩ := len_cons hlen11
        obtain ⟨x13, vs13, rfl, hlen13⟩ := len_cons hlen12
        obtain ⟨x14, vs14, rfl, hlen14⟩ := len_cons hlen13
        obtain ⟨x15, vs15, rfl, hlen15⟩ := len_cons hlen14
        obtain ⟨x16, vs16, rfl, hlen16⟩ := len_cons hlen15
        obtain ⟨x17, vs17, rfl, hlen17⟩ := len_cons hlen16
        obtain ⟨x18, vs18, rfl, hlen18⟩ := len_cons hlen17
        obtain ⟨x19, vs19, rfl, hlen19⟩ := len_cons hlen18
        obtain ⟨x20, vs20, rfl, hlen20⟩ := len_cons hlen19
        obtain ⟨x21, vs21, rfl, hlen21⟩ := len_cons hlen20
        obtain rfl := len_nil hlen21
        clear hlen hlen0 hlen1 hlen2 hlen3 hlen4 hlen5 hlen6 hlen7 hlen8 hlen9 hlen10 hlen11 hlen12 hlen13 hlen14 hlen15 hlen16 hlen17 hlen18 hlen19 hlen20 hlen21
        obtain ⟨g0, hs0, hg0, cs0, -, hk0, hc0⟩ := hJ.made ⟨18, 20, 112, #[.int .u64 0, .int .u64 (X : Int)]⟩ (by simp) (hall 18 (of_decide_eq_true (by kernel_rfl)))
        obtain rfl : cs0 = #[.int .u64 0, .int .u64 (X : Int)] := hc0 (hall 20 (of_decide_eq_true (by kernel_rfl)))
        obtain ⟨g1, hs1, hg1, cs1, -, hk1, hc1⟩ := hJ.made ⟨19, 21, 112, #[.int .u64 0, .int .u64 (Y : Int)]⟩ (by simp) (hall 19 (of_decide_eq_true (by kernel_rfl)))
        obtain rfl : cs1 = #[.int .u64 0, .int .u64 (Y : Int)] := hc1 (hall 21 (of_decide_eq_true (by kernel_rfl)))
        have d0 : x0 = .pointer (some ⟨w.heap.size, 0, none⟩) := hJ.val 0 (show 0 < 22 by decide) (by decide) (hall 0 (of_decide_eq_true (by kernel_rfl)))
        have d1 : x1 = .int .i64 (p : Int) := hJ.val 1 (show 1 < 22 by decide) (by decide) (hall 1 (of_decide_eq_true (by kernel_rfl)))
        have d2 : x2 = .int .u64 (p : Int) := hJ.val 2 (show 2 < 22 by decide) (by decide) (hall 2 (of_decide_eq_true (by kernel_rfl)))
        have d3 : x3 = .pointer (some ⟨w.heap.size + 1, 1, none⟩) := hJ.val 3 (show 3 < 22 by decide) (by decide) (hall 3 (of_decide_eq_true (by kernel_rfl)))
        have d4 : x4 = .int .i64 (n : Int) := hJ.val 4 (show 4 < 22 by decide) (by decide) (hall 4 (of_decide_eq_true (by kernel_rfl)))
        have d5 : x5 = .int .u64 (n : Int) := hJ.val 5 (show 5 < 22 by decide) (by decide) (hall 5 (of_decide_eq_true (by kernel_rfl)))
        have d6 : x6 = .int .u64 (g : Int) := hJ.val 6 (show 6 < 22 by decide) (by decide) (hall 6 (of_decide_eq_true (by kernel_rfl)))
        have d7 : x7 = .int .u64 (n' : Int) := hJ.val 7 (show 7 < 22 by decide) (by decide) (hall 7 (of_decide_eq_true (by kernel_rfl)))
        have d8 : x8 = .agg #[.int .u64 0, .int .u64 (X : Int)] := hJ.val 8 (show 8 < 22 by decide) (by decide) (hall 8 (of_decide_eq_true (by kernel_rfl)))
        have d9 : x9 = .pointer (some ⟨w.heap.size + 1, 0, none⟩) := hJ.val 9 (show 9 < 22 by decide) (by decide) (hall 9 (of_decide_eq_true (by kernel_rfl)))
        have d10 : x10 = .int .i64 (q : Int) := hJ.val 10 (show 10 < 22 by decide) (by decide) (hall 10 (of_decide_eq_true (by kernel_rfl)))
        have d11 : x11 = .int .u64 (q : Int) := hJ.val 11 (show 11 < 22 by decide) (by decide) (hall 11 (of_decide_eq_true (by kernel_rfl)))
        have d12 : x12 = .pointer (some ⟨w.heap.size, 1, none⟩) := hJ.val 12 (show 12 < 22 by decide) (by decide) (hall 12 (of_decide_eq_true (by kernel_rfl)))
        have d13 : x13 = .int .i64 (m : Int) := hJ.val 13 (show 13 < 22 by decide) (by decide) (hall 13 (of_decide_eq_true (by kernel_rfl)))
        have d14 : x14 = .int .u64 (m : Int) := hJ.val 14 (show 14 < 22 by decide) (by decide) (hall 14 (of_decide_eq_true (by kernel_rfl)))
        have d15 : x15 = .int .u64 (g : Int) := hJ.val 15 (show 15 < 22 by decide) (by decide) (hall 15 (of_decide_eq_true (by kernel_rfl)))
        have d16 : x16 = .int .u64 (m' : Int) := hJ.val 16 (show 16 < 22 by decide) (by decide) (hall 16 (of_decide_eq_true (by kernel_rfl)))
        have d17 : x17 = .agg #[.int .u64 0, .int .u64 (Y : Int)] := hJ.val 17 (show 17 < 22 by decide) (by decide) (hall 17 (of_decide_eq_true (by kernel_rfl)))
        have e0 : x18 = .pointer (some ⟨g0, 0, none⟩) := hs0
        have e1 : x19 = .pointer (some ⟨g1, 0, none⟩) := hs1
        have hbel := hJ.below
        clear hJ hall hs0 hs1 hc0 hc1
        subst d0 d1 d2 d3 d4 d5 d6 d7 d8 d9 d10 d11 d12 d13 d14 d15 d16 d17 e0 e1
        simp only [putAll_cons, putAll_nil, put_some, put_none, List.setIfInBounds_toArray, List.set_cons_succ, List.set_cons_zero]
        have HBW := Lib.hid hbel
        have HK0 := Lib.hid hk0
        have HK1 := Lib.hid hk1
        clear hbel hk0 hk1 hg0 hg1
        go_wp2_with fail
        go_meet
        exact ⟨g0, g1, rfl, rfl, HK0.out, HK1.out, HBW.out⟩
    case rest =>
      obtain ⟨g7, g8, rfl, rfl, hk7, hk8, hbl⟩ := hcut
      obtain ⟨W2, rfl⟩ : ∃ W : World, W = wc := ⟨_, rfl⟩
      have HB2 := Lib.hid (HB1.out.trans (hbl.mono HB1.out.size))
      obtain ⟨z, ez⟩ := ext_of hbl
      have hfa := HFA.out.ext z
      have hfb := HFB.out.ext z
      rw [← ez] at hfa hfb
      obtain ⟨ca0, ca1⟩ := hfa
      obtain ⟨cb0, cb1⟩ := hfb
      have c70 : W2.cell? ⟨g7, 0, none⟩ = some (.int .u64 0) := (hk7.cell 0).trans rfl
      have c71 : W2.cell? ⟨g7, 1, none⟩ = some (.int .u64 (X : Int)) := (hk7.cell 1).trans rfl
      have c80 : W2.cell? ⟨g8, 0, none⟩ = some (.int .u64 0) := (hk8.cell 0).trans rfl
      have c81 : W2.cell? ⟨g8, 1, none⟩ = some (.int .u64 (Y : Int)) := (hk8.cell 1).trans rfl
      have hr2 : Blk W2 (w.heap.size + 1 + 1) #[.int .i64 0, .int .i64 0] 52 := by rw [ez]; exact HRB.out.ext z
      have cr0 : W2.cell? ⟨w.heap.size + 1 + 1, 0, none⟩ = some (.int .i64 0) := (hr2.cell 0).trans rfl
      have cr1 : W2.cell? ⟨w.heap.size + 1 + 1, 1, none⟩ = some (.int .i64 0) := (hr2.cell 1).trans rfl
      have fr0 := hr2.frozen 0
      have fr1 := hr2.frozen 1
      have HR2 := Lib.hid hr2
      clear hk7 hk8 hbl ez hr2
      go_wp2_with fail
      go_at_call 61; refine (HPL.out _).mono ?_; rintro e w' ⟨rfl, x4, rfl⟩
      go_wp2_with fail
      go_at_call 64; refine (HO.out _).mono ?_; rintro e w' ⟨rfl, x5, rfl⟩
      go_wp2_with fail
      go_at_call 58; refine (HG2.out _).mono ?_; rintro e w' ⟨rfl, x6, rfl⟩
      go_wp2_with fail
      go_at_call 64; refine (HO2.out _).mono ?_; rintro e w' ⟨rfl, x7, rfl⟩
      go_wp2_with fail
      refine world_mask (fun W => Below w.heap.size w W ∧ FrAt W w.heap.size p m ∧ FrAt W (w.heap.size + 1) q n ∧ Blk W (w.heap.size + 1 + 1) #[.int .i64 0, .int .i64 0] 52 ∧ W.cell? ⟨W2.heap.size, 0, none⟩ = some (.int .u64 0) ∧ W.cell? ⟨W2.heap.size, 1, none⟩ = some (.int .u64 (j : Int))) _ ⟨by repeat (first | exact HB2.out | refine below_setR ?_ (by simp only; omega) _ | refine grow_ext _ ?_ | refine grow_alloc _ ?_ | refine grow_drew ?_), by simp [FrAt, go_sem, ca0, ca1], by simp [FrAt, go_sem, cb0, cb1], by repeat (first | exact HR2.out | refine Blk.ext ?_ _ | refine Blk.alloc ?_ _), by simp [go_sem], by simp [go_sem]⟩ ?_
      rintro W3 ⟨hb3, hfa3, hfb3, hr3, hn0, hn1⟩
      have HB3 := Lib.hid hb3
      have HFA3 := Lib.hid hfa3
      have HFB3 := Lib.hid hfb3
      have HN3 := Lib.hid (⟨hr3, hn0, hn1⟩ : _ ∧ _ ∧ _)
      clear hb3 hfa3 hfb3 hr3 hn0 hn1 ca0 ca1 cb0 cb1 c70 c71 c80 c81 cr0 cr1 fr0 fr1
      go_cut [14] (fun s14 wx => ∃ g14, s14 = .pointer (some ⟨g14, 0, none⟩) ∧ Blk wx g14 #[.int .u64 0, .int .u64 (Z : Int)] 112 ∧ Below W3.heap.size W3 wx)
      case first =>
        have hok : mkOk [11, 12] [⟨11, 12, 112, #[.int .u64 0, .int .u64 (Z : Int)]⟩] := mkOk_one (by decide)
        refine wp_region_M [.pointer (some ⟨w.heap.size, 1, none⟩), .int .i64 (m : Int), .int .u64 (m : Int), .int .u64 (g : Int), .int .u64 (m' : Int), .pointer (some ⟨w.heap.size + 1, 1, none⟩), .int .i64 (n : Int), .int .u64 (n : Int), .int .u64 (c : Int), .int .u64 (k : Int), .agg #[.int .u64 0, .int .u64 (Z : Int)], undef, undef] [11, 12] [⟨11, 12, 112, #[.int .u64 0, .int .u64 (Z : Int)]⟩] (by kernel_rfl) (by kernel_rfl) ?_ ?_ ?_
        · intro b hb
          simp only [List.mem_cons, List.not_mem_nil, or_false] at hb
          rcases hb with rfl
          all_goals exact ⟨of_decide_eq_true (by kernel_rfl), of_decide_eq_true (by kernel_rfl)⟩
        · intro L vs W i hlen hJ hi
          obtain ⟨x0, vs0, rfl, hlen0⟩ := len_cons hlen
          obtain ⟨x1, vs1, rfl, hlen1⟩ := len_cons hlen0
          obtain ⟨x2, vs2, rfl, hlen2⟩ := len_cons hlen1
          obtain ⟨x3, vs3, rfl, hlen3⟩ := len_cons hlen2
          obtain ⟨x4, vs4, rfl, hlen4⟩ := len_cons hlen3
          obtain ⟨x5, vs5, rfl, hlen5⟩ := len_cons hlen4
          obtain ⟨x6, vs6, rfl, hlen6⟩ := len_cons hlen5
          obtain ⟨x7, vs7, rfl, hlen7⟩ := len_cons hlen6
          obtain ⟨x8, vs8, rfl, hlen8⟩ := len_cons hlen7
          obtain ⟨x9, vs9, rfl, hlen9⟩ := len_cons hlen8
          obtain ⟨x10, vs10, rfl, hlen10⟩ := len_cons hlen9
          obtain ⟨x11, vs11, rfl, hlen11⟩ := len_cons hlen10
          obtain ⟨x12, vs12, rfl, hlen12⟩ := len_cons hlen11
          obtain rfl := len_nil hlen12
          clear hlen hlen0 hlen1 hlen2 hlen3 hlen4 hlen5 hlen6 hlen7 hlen8 hlen9 hlen10 hlen11 hlen12
          obtain ⟨hun, o, ho, hd⟩ := mem_ready.1 hi
          have hin : i < 13 := by have := (Array.getElem?_eq_some_iff.1 ho).1; simpa using this
          refine wpOp_free (B := fun a' W' => ∃ x0 x1 x2 x3 x4 x5 x6 x7 x8 x9 x10 x11 x12, a' = putAll _ [x0, x1, x2, x3, x4, x5, x6, x7, x8, x9, x10, x11, x12] _ ∧ InvM _ _ _ _ [x0, x1, x2, x3, x4, x5, x6, x7, x8, x9, x10, x11, x12] (L.setIfInBounds i true) W') (fun _ _ h => by obtain ⟨x0, x1, x2, x3, x4, x5, x6, x7, x8, x9, x10, x11, x12, h1, h2⟩ := h; exact ⟨[x0, x1, x2, x3, x4, x5, x6, x7, x8, x9, x10, x11, x12], rfl, h1, h2⟩) ?_
          intro K HK
          simp only [putAll_cons, putAll_nil, put_some, put_none, List.setIfInBounds_toArray, List.set_cons_succ, List.set_cons_zero] at HK ⊢
          have HOK := Lib.hid hok
          clear hok
          obtain ⟨z, ez⟩ := ext_of hJ.below
          have hfa := HFA3.out.ext z
          have hfb := HFB3.out.ext z
          rw [← ez] at hfa hfb
          obtain ⟨ca0, ca1⟩ := hfa
          obtain ⟨cb0, cb1⟩ := hfb
          clear ez
          rcases (show i = 0 ∨ i = 1 ∨ i = 2 ∨ i = 3 ∨ i = 4 ∨ i = 5 ∨ i = 6 ∨ i = 7 ∨ i = 8 ∨ i = 9 ∨ i = 10 ∨ i = 11 ∨ i = 12 by omega) with rfl | rfl | rfl | rfl | rfl | rfl | rfl | rfl | rfl | rfl | rfl | rfl | rfl
          · obtain rfl := Option.some.inj ho
            refine wpOp_of_list (by rfl) ?_
            go_wp2
            exact HK.out _ _ ⟨_, _, _, _, _, _, _, _, _, _, _, _, _, rfl, hJ.up HOK.out 0 (by decide) (show 0 < 13 by decide) rfl⟩
          · obtain rfl := Option.some.inj ho
            have d0 : x0 = .pointer (some ⟨w.heap.size, 1, none⟩) := hJ.val 0 (show 0 < 13 by decide) (by decide) (getD_upJ (hd ⟨0, .data⟩ (by simp) (by rfl)))
            subst d0
            refine wpOp_of_list (by rfl) ?_
            go_wp2
            exact HK.out _ _ ⟨_, _, _, _, _, _, _, _, _, _, _, _, _, rfl, hJ.up HOK.out 1 (by decide) (show 1 < 13 by decide) rfl⟩
          · obtain rfl := Option.some.inj ho
            have d1 : x1 = .int .i64 (m : Int) := hJ.val 1 (show 1 < 13 by decide) (by decide) (getD_upJ (hd ⟨1, .data⟩ (by simp) (by rfl)))
            subst d1
            refine wpOp_of_list (by rfl) ?_
            go_wp2
            exact HK.out _ _ ⟨_, _, _, _, _, _, _, _, _, _, _, _, _, rfl, hJ.up HOK.out 2 (by decide) (show 2 < 13 by decide) rfl⟩
          · obtain rfl := Option.some.inj ho
            refine wpOp_of_list (by rfl) ?_
            go_wp2
            exact HK.out _ _ ⟨_, _, _, _, _, _, _, _, _, _, _, _, _, rfl, hJ.up HOK.out 3 (by decide) (show 3 < 13 by decide) rfl⟩
          · obtain rfl := Option.some.inj ho
            have d2 : x2 = .int .u64 (m : Int) := hJ.val 2 (show 2 < 13 by decide) (by decide) (getD_upJ (hd ⟨2, .data⟩ (by simp) (by rfl)))
            have d3 : x3 = .int .u64 (g : Int) := hJ.val 3 (show 3 < 13 by decide) (by decide) (getD_upJ (hd ⟨3, .data⟩ (by simp) (by rfl)))
            subst d2 d3
            refine wpOp_of_list (by rfl) ?_
            go_wp2
            exact HK.out _ _ ⟨_, _, _, _, _, _, _, _, _, _, _, _, _, rfl, hJ.up HOK.out 4 (by decide) (show 4 < 13 by decide) rfl⟩
          · obtain rfl := Option.some.inj ho
            refine wpOp_of_list (by rfl) ?_
            go_wp2
            exact HK.out _ _ ⟨_, _, _, _, _, _, _, _, _, _, _, _, _, rfl, hJ.up HOK.out 5 (by decide) (show 5 < 13 by decide) rfl⟩
          · obtain rfl := Option.some.inj ho
            have d5 : x5 = .pointer (some ⟨w.heap.size + 1, 1, none⟩) := hJ.val 5 (show 5 < 13 by decide) (by decide) (getD_upJ (hd ⟨5, .data⟩ (by simp) (by rfl)))
            subst d5
            refine wpOp_of_list (by rfl) ?_
            go_wp2
            exact HK.out _ _ ⟨_, _, _, _, _, _, _, _, _, _, _, _, _, rfl, hJ.up HOK.out 6 (by decide) (show 6 < 13 by decide) rfl⟩
          · obtain rfl := Option.some.inj ho
            have d6 : x6 = .int .i64 (n : Int) := hJ.val 6 (show 6 < 13 by decide) (by decide) (getD_upJ (hd ⟨6, .data⟩ (by simp) (by rfl)))
            subst d6
            refine wpOp_of_list (by rfl) ?_
            go_wp2
            exact HK.out _ _ ⟨_, _, _, _, _, _, _, _, _, _, _, _, _, rfl, hJ.up HOK.out 7 (by decide) (show 7 < 13 by decide) rfl⟩
          · obtain rfl := Option.some.inj ho
            refine wpOp_of_list (by rfl) ?_
            go_wp2
            exact HK.out _ _ ⟨_, _, _, _, _, _, _, _, _, _, _, _, _, rfl, hJ.up HOK.out 8 (by decide) (show 8 < 13 by decide) rfl⟩
          · obtain rfl := Option.some.inj ho
            have d7 : x7 = .int .u64 (n : Int) := hJ.val 7 (show 7 < 13 by decide) (by decide) (getD_upJ (hd ⟨7, .data⟩ (by simp) (by rfl)))
            have d8 : x8 = .int .u64 (c : Int) := hJ.val 8 (show 8 < 13 by decide) (by decide) (getD_upJ (hd ⟨8, .data⟩ (by simp) (by rfl)))
            subst d7 d8
            refine wpOp_of_list (by rfl) ?_
            go_wp2
            exact HK.out _ _ ⟨_, _, _, _, _, _, _, _, _, _, _, _, _, rfl, hJ.up HOK.out 9 (by decide) (show 9 < 13 by decide) rfl⟩
          · obtain rfl := Option.some.inj ho
            have d4 : x4 = .int .u64 (m' : Int) := hJ.val 4 (show 4 < 13 by decide) (by decide) (getD_upJ (hd ⟨4, .data⟩ (by simp) (by rfl)))
            have d9 : x9 = .int .u64 (k : Int) := hJ.val 9 (show 9 < 13 by decide) (by decide) (getD_upJ (hd ⟨9, .data⟩ (by simp) (by rfl)))
            subst d4 d9
            refine wpOp_of_list (by rfl) ?_
            go_wp2_with fail
            go_at_call 59; refine (HP3.out _).mono ?_; rintro e w' ⟨rfl, xq, rfl⟩
            go_wp2
            exact HK.out _ _ ⟨_, _, _, _, _, _, _, _, _, _, _, _, _, rfl, (hJ.grow _).up HOK.out 10 (by decide) (show 10 < 13 by decide) rfl⟩
          · obtain rfl := Option.some.inj ho
            refine wpOp_of_list (by rfl) ?_
            go_wp2
            exact HK.out _ _ ⟨_, _, _, _, _, _, _, _, _, _, _, _, _, rfl, hJ.make HOK.out ⟨11, 12, 112, #[.int .u64 0, .int .u64 (Z : Int)]⟩ (by simp) (show 11 < 13 by decide) hun #[.int .u64 0, .int .u64 0] rfl rfl⟩
          · obtain rfl := Option.some.inj ho
            have d10 : x10 = .agg #[.int .u64 0, .int .u64 (Z : Int)] := hJ.val 10 (show 10 < 13 by decide) (by decide) (getD_upJ (hd ⟨10, .data⟩ (by simp) (by rfl)))
            have hka := getD_upJ (hd ⟨11, .data⟩ (by simp) (by rfl))
            obtain ⟨gq, hs, hg, cs, hcs, hb, -⟩ := hJ.made ⟨11, 12, 112, #[.int .u64 0, .int .u64 (Z : Int)]⟩ (by simp) hka
            have hs2 : x11 = .pointer (some ⟨gq, 0, none⟩) := hs
            obtain ⟨qa0, qh0⟩ : ∃ a, cs[0]? = some a := ⟨_, Array.getElem?_eq_getElem (by rw [hcs]; exact (show 0 < 2 by decide))⟩
            obtain ⟨qa1, qh1⟩ : ∃ a, cs[1]? = some a := ⟨_, Array.getElem?_eq_getElem (by rw [hcs]; exact (show 1 < 2 by decide))⟩
            have qf0 : W.frozen? ⟨gq, 0, none⟩ = false := hb.frozen 0
            have qg0 : W.cell? ⟨gq, 0, none⟩ = some qa0 := (hb.cell 0).trans qh0
            have qf1 : W.frozen? ⟨gq, 1, none⟩ = false := hb.frozen 1
            have qg1 : W.cell? ⟨gq, 1, none⟩ = some qa1 := (hb.cell 1).trans qh1
            subst d10
            subst hs2
            refine wpOp_of_list (by rfl) ?_
            go_wp2
            refine HK.out _ _ ⟨_, _, _, _, _, _, _, _, _, _, _, _, _, rfl, hJ.fill HOK.out ⟨11, 12, 112, #[.int .u64 0, .int .u64 (Z : Int)]⟩ (by simp) hka hs hg ((hJ.below.setCell hg _).setCell hg _) (fun k hk => by rw [Below.heap_setCell _ _ _ _ hk, Below.heap_setCell _ _ _ _ hk]) ?_⟩
            show Blk _ gq #[.int .u64 0, .int .u64 (Z : Int)] _
            rw [← fill2 (a := .int .u64 0) (b := .int .u64 (Z : Int)) hcs]
            exact ((hb.set 0 _).set 1 _)
        · intro vs L W hlen hJ hall
          clear hok
          obtain ⟨x0, vs0, rfl, hlen0⟩ := len_cons hlen
          obtain ⟨x1, vs1, rfl, hlen1⟩ := len_cons hlen0
          obtain ⟨x2, vs2, rfl, hlen2⟩ := len_cons hlen1
          obtain ⟨x3, vs3, rfl, hlen3⟩ := len_cons hlen2
          obtain ⟨x4, vs4, rfl, hlen4⟩ := len_cons hlen3
          obtain ⟨x5, vs5, rfl, hlen5⟩ := len_cons hlen4
          obtain ⟨x6, vs6, rfl, hlen6⟩ := len_cons hlen5
          obtain ⟨x7, vs7, rfl, hlen7⟩ := len_cons hlen6
          obtain ⟨x8, vs8, rfl, hlen8⟩ := len_cons hlen7
          obtain ⟨x9, vs9, rfl, hlen9⟩ := len_cons hlen8
          obtain ⟨x10, vs10, rfl, hlen10⟩ := len_cons hlen9
          obtain ⟨x11, vs11, rfl, hlen11⟩ := len_cons hlen10
          obtain ⟨x12, vs12, rfl, hlen12⟩ := len_cons hlen11
          obtain rfl := len_nil hlen12
          clear hlen hlen0 hlen1 hlen2 hlen3 hlen4 hlen5 hlen6 hlen7 hlen8 hlen9 hlen10 hlen11 hlen12
          obtain ⟨g0, hs0, hg0, cs0, -, hk0, hc0⟩ := hJ.made ⟨11, 12, 112, #[.int .u64 0, .int .u64 (Z : Int)]⟩ (by simp) (hall 11 (of_decide_eq_true (by kernel_rfl)))
          obtain rfl : cs0 = #[.int .u64 0, .int .u64 (Z : Int)] := hc0 (hall 12 (of_decide_eq_true (by kernel_rfl)))
          have d0 : x0 = .pointer (some ⟨w.heap.size, 1, none⟩) := hJ.val 0 (show 0 < 13 by decide) (by decide) (hall 0 (of_decide_eq_true (by kernel_rfl)))
          have d1 : x1 = .int .i64 (m : Int) := hJ.val 1 (show 1 < 13 by decide) (by decide) (hall 1 (of_decide_eq_true (by kernel_rfl)))
          have d2 : x2 = .int .u64 (m : Int) := hJ.val 2 (show 2 < 13 by decide) (by decide) (hall 2 (of_decide_eq_true (by kernel_rfl)))
          have d3 : x3 = .int .u64 (g : Int) := hJ.val 3 (show 3 < 13 by decide) (by decide) (hall 3 (of_decide_eq_true (by kernel_rfl)))
          have d4 : x4 = .int .u64 (m' : Int) := hJ.val 4 (show 4 < 13 by decide) (by decide) (hall 4 (of_decide_eq_true (by kernel_rfl)))
          have d5 : x5 = .pointer (some ⟨w.heap.size + 1, 1, none⟩) := hJ.val 5 (show 5 < 13 by decide) (by decide) (hall 5 (of_decide_eq_true (by kernel_rfl)))
          have d6 : x6 = .int .i64 (n : Int) := hJ.val 6 (show 6 < 13 by decide) (by decide) (hall 6 (of_decide_eq_true (by kernel_rfl)))
          have d7 : x7 = .int .u64 (n : Int) := hJ.val 7 (show 7 < 13 by decide) (by decide) (hall 7 (of_decide_eq_true (by kernel_rfl)))
          have d8 : x8 = .int .u64 (c : Int) := hJ.val 8 (show 8 < 13 by decide) (by decide) (hall 8 (of_decide_eq_true (by kernel_rfl)))
          have d9 : x9 = .int .u64 (k : Int) := hJ.val 9 (show 9 < 13 by decide) (by decide) (hall 9 (of_decide_eq_true (by kernel_rfl)))
          have d10 : x10 = .agg #[.int .u64 0, .int .u64 (Z : Int)] := hJ.val 10 (show 10 < 13 by decide) (by decide) (hall 10 (of_decide_eq_true (by kernel_rfl)))
          have e0 : x11 = .pointer (some ⟨g0, 0, none⟩) := hs0
          have hbel := hJ.below
          clear hJ hall hs0 hc0
          subst d0 d1 d2 d3 d4 d5 d6 d7 d8 d9 d10 e0
          simp only [putAll_cons, putAll_nil, put_some, put_none, List.setIfInBounds_toArray, List.set_cons_succ, List.set_cons_zero]
          have HBW := Lib.hid hbel
          have HK0 := Lib.hid hk0
          clear hbel hk0 hg0
          go_wp2_with fail
          go_meet
          exact ⟨g0, rfl, HK0.out, HBW.out⟩
      case rest =>
        obtain ⟨g14, rfl, hk14, hbl⟩ := hcut
        obtain ⟨W4, rfl⟩ : ∃ W : World, W = wc := ⟨_, rfl⟩
        have HB4 := Lib.hid (HB3.out.trans (hbl.mono HB3.out.size))
        obtain ⟨z, ez⟩ := ext_of hbl
        obtain ⟨hr3, hn0, hn1⟩ := HN3.out
        have hr4 : Blk W4 (w.heap.size + 1 + 1) #[.int .i64 0, .int .i64 0] 52 := by rw [ez]; exact hr3.ext z
        have HR4 := Lib.hid hr4
        have cr0 : W4.cell? ⟨w.heap.size + 1 + 1, 0, none⟩ = some (.int .i64 0) := (hr4.cell 0).trans rfl
        have cr1 : W4.cell? ⟨w.heap.size + 1 + 1, 1, none⟩ = some (.int .i64 0) := (hr4.cell 1).trans rfl
        have fr0 := hr4.frozen 0
        have fr1 := hr4.frozen 1
        have cn0 : W4.cell? ⟨W2.heap.size, 0, none⟩ = some (.int .u64 0) := by rw [ez]; exact cell_ext_some hn0 z
        have cn1 : W4.cell? ⟨W2.heap.size, 1, none⟩ = some (.int .u64 (j : Int)) := by rw [ez]; exact cell_ext_some hn1 z
        have cd0 : W4.cell? ⟨g14, 0, none⟩ = some (.int .u64 0) := (hk14.cell 0).trans rfl
        have cd1 : W4.cell? ⟨g14, 1, none⟩ = some (.int .u64 (Z : Int)) := (hk14.cell 1).trans rfl
        clear hr3 hr4 hn0 hn1 hk14 hbl ez
        go_wp2_with fail
        go_at_call 65; refine (HSG.out _).mono ?_; rintro e w' ⟨rfl, x8, rfl⟩
        go_wp2
        rw [HF.out]
        have s0 := (((HR4.out.set 0 (.int .i64 (j : Int))).set 1 (.int .i64 (Z : Int))).cell 0).trans rfl
        have s1 := (((HR4.out.set 0 (.int .i64 (j : Int))).set 1 (.int .i64 (Z : Int))).cell 1).trans rfl
        refine bodyPost_ret (v := .tuple #[.agg #[.int .i64 j, .int .i64 Z], .int .i64 0]) (by simp [results, Tryz.results26, go_sem, s0, s1]) rfl ?_
        exact Ret.of (by repeat (first | exact HB4.out | refine below_setR ?_ (by simp only; omega) _ | refine grow_ext _ ?_ | refine grow_alloc _ ?_ | refine grow_drew ?_))

end Go.Proofs.YtofjopdcbmaijaaGreat

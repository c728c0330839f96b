/- GapsNear: the walk of the law. -/
import Derived.Test.YtofjopdcbmaijaaPlainG
import Derived.Test.YtofjopdcbmaijaaGapRet
import Derived.Test.YtofjopdcbmaijaaRefLK3
import Derived.Test.YtofjopdcbmaijaaAwake21
import Derived.Deep.DeepCutAuto
import Derived.Deep.CutBlock
namespace Go.Proofs.Ytofjopdcbmaijaa
open Go.RowKit
set_option maxRecDepth 20000

theorem small21_c (l : List Br) (rs : List Rn) (v u : Value) (w : World) (hl : Bars w v l) (hr : Runs w u rs) : Calls Try.prog 30 #[v, u] w (RetB w) := by
  have HS := Lib.hid (refSmall16_c l rs v u 6 16 (by omega) (by omega) w hl hr)
  clear hl hr
  go_enter Try.func30, Try.ntmps30
  go_wp2_with fail
  go_at_call 44; refine HS.out.mono ?_; rintro e w' ⟨q, rfl, x, rfl⟩
  go_wp2
  go_ret
  exact ⟨_, rfl, ext_of (by (repeat (first | exact grow_refl _ | refine grow_ext _ ?_ | refine grow_alloc _ ?_ | refine grow_drew ?_)))⟩

/-- A Bool comes back; true only if the runs are laid, and x is a length. -/
def RetR (w : World) (l : List Br) (rs : List Rn) (x : Int) : Ending → World → Prop := fun e W => ∃ q, e = .returned (.bool q) ∧ (q = true → laidB l rs = true ∧ -1048576 ≤ x ∧ x ≤ 1048576) ∧ ∃ y, W = ext w y

set_option maxHeartbeats 2000000 in
theorem right21_c (l : List Br) (rs : List Rn) (v u : Value) (x : Int) (w : World) (hl : Bars w v l) (hr : Runs w u rs) : Calls Try.prog 17 #[v, u, .int .i64 x] w (RetR w l rs x) := by
  have HL := Lib.hid hl
  have HR := Lib.hid hr
  clear hl hr
  cases hv : laidB l rs
  all_goals
    have HV := Lib.hid hv
    clear hv
    go_enter Try.func17, Try.ntmps17
    go_wp2_with fail
    go_at_call 30; refine (small21_c l rs v u _ (HL.out.below (by (repeat (first | exact grow_refl _ | refine grow_ext _ ?_ | refine grow_alloc _ ?_ | refine grow_drew ?_)))) (HR.out.below (by (repeat (first | exact grow_refl _ | refine grow_ext _ ?_ | refine grow_alloc _ ?_ | refine grow_drew ?_))))).mono ?_; rintro e w' ⟨q, rfl, x1, rfl⟩
    cases q
    · go_wp2
      go_ret
      exact ⟨_, rfl, fun h => (by cases h), ext_of (by (repeat (first | exact grow_refl _ | refine grow_ext _ ?_ | refine grow_alloc _ ?_ | refine grow_drew ?_)))⟩
    go_wp2_with fail
    go_at_call 31; refine (refLaid_v l rs v u _ HV.out _ (HL.out.below (by (repeat (first | exact grow_refl _ | refine grow_ext _ ?_ | refine grow_alloc _ ?_ | refine grow_drew ?_)))) (HR.out.below (by (repeat (first | exact grow_refl _ | refine grow_ext _ ?_ | refine grow_alloc _ ?_ | refine grow_drew ?_))))).mono ?_; rintro e w' ⟨rfl, x2, rfl⟩
  · go_wp2
    go_ret
    exact ⟨_, rfl, fun h => (by cases h), ext_of (by (repeat (first | exact grow_refl _ | refine grow_ext _ ?_ | refine grow_alloc _ ?_ | refine grow_drew ?_)))⟩
  · obtain ⟨q, hq⟩ : ∃ q, decide (-1048576 ≤ x ∧ x ≤ 1048576) = q := ⟨_, rfl⟩
    have HQ := Lib.hid hq
    clear hq
    go_wp2_with fail
    go_at_call 21; refine (refIsLen_v x q HQ.out _).mono ?_; rintro e w' ⟨rfl, x3, rfl⟩
    go_wp2
    go_ret
    exact ⟨_, rfl, fun h => ⟨HV.out, by have h1 := HQ.out; rw [h] at h1; simpa using h1⟩, ext_of (by (repeat (first | exact grow_refl _ | refine grow_ext _ ?_ | refine grow_alloc _ ?_ | refine grow_drew ?_)))⟩

theorem gapB_bound {a b : Bx} (ha : SmallB a) (hb : SmallB b) : -4000000 ≤ gapB a b ∧ gapB a b ≤ 4000000 := by
  unfold gapB; unfold SmallB at ha hb; omega

attribute [local go_sem] run_max_int4

set_option maxRecDepth 100000 in
set_option maxHeartbeats 8000000 in
theorem lawNear_ok (l : List Br) (rs : List Rn) (v u : Value) (x qa qm : Int) (ha : 0 ≤ qa ∧ qa ≤ 255) (hm : 0 ≤ qm ∧ qm ≤ 255) (w : World) (hl : Bars w v l) (hr : Runs w u rs) :
    Calls Try.prog 5 #[v, u, .int .i64 x, .int .u8 qa, .int .u8 qm] w (Ret w (.bool true)) := by
  have HL := Lib.hid hl
  have HR := Lib.hid hr
  clear hl hr
  obtain ⟨ha0, ha1⟩ := ha
  obtain ⟨hm0, hm1⟩ := hm
  have hw1 : IntKind.i64.wrap qa = qa := IntWalk.i64_in _ (by omega)
  have hw2 : IntKind.i64.wrap qm = qm := IntWalk.i64_in _ (by omega)
  obtain ⟨A, hA⟩ : ∃ A, 1 + qa % 100 = A := ⟨_, rfl⟩
  have hA1 : 1 ≤ A ∧ A ≤ 100 := by omega
  have ht : qa.tmod 100 = A - 1 := by rw [Int.tmod_eq_emod_of_nonneg ha0]; omega
  have hw3 : IntKind.i64.wrap (A - 1) = A - 1 := IntWalk.i64_in _ (by omega)
  have hw4 : IntKind.i64.wrap (1 + (A - 1)) = A := by rw [show (1 : Int) + (A - 1) = A by omega]; exact IntWalk.i64_in _ (by omega)
  obtain ⟨B, hB⟩ : ∃ B, min 100 (A + qm) = B := ⟨_, rfl⟩
  have hB1 : A ≤ B ∧ B ≤ 100 := by omega
  have HB := Lib.hid hB
  have HA := Lib.hid hA
  clear hB hA
  go_enter Try.func5, Try.ntmps5
  go_wp2_with fail
  go_at_call 7; refine (awake21_c _).mono ?_; rintro e w' ⟨rfl, x0, rfl⟩
  go_wp2_with fail
  go_at_call 17; refine (right21_c l rs v u x _ (HL.out.below (by (repeat (first | exact grow_refl _ | refine grow_ext _ ?_ | refine grow_alloc _ ?_ | refine grow_drew ?_)))) (HR.out.below (by (repeat (first | exact grow_refl _ | refine grow_ext _ ?_ | refine grow_alloc _ ?_ | refine grow_drew ?_))))).mono ?_; rintro e w' ⟨q, rfl, hq, x1, rfl⟩
  cases q
  · clear hq
    go_wp2
    go_ret
    exact Ret.of (by (repeat (first | exact grow_refl _ | refine grow_ext _ ?_ | refine grow_alloc _ ?_ | refine grow_drew ?_)))
  obtain ⟨hv, hx0, hx1⟩ := hq rfl
  clear hq
  have hin : inI x (-1048576) 1048576 = true := by unfold inI; simp; omega
  have hce : cutsE l rs x = (cutsI l rs x, 0) := by unfold cutsE; rw [if_pos hv, if_pos hin]
  have hsm : ∀ c ∈ cutsI l rs x, SmallB c.box ∧ sizeB c.size = true := by have := @cutsE_small l rs x; rw [hce] at this; exact this
  have hC1 : ∀ a, 1 ≤ a → a ≤ 100 → checkE l rs a x = (checkI (cutsI l rs x) a, 0) := fun a h1 h2 => by
    unfold checkE; rw [hce, if_pos rfl, if_pos (by unfold inI; simp; omega)]
  have HK1 := Lib.hid (fun w hl hr => gCheck_c l rs v u A x w hl hr)
  have HK2 := Lib.hid (fun w hl hr => gCheck_c l rs v u B x w hl hr)
  rw [hC1 A (by omega) (by omega)] at HK1
  rw [hC1 B (by omega) (by omega)] at HK2
  have HRW := Lib.hid (fun w hl hr => gRow_c l rs v u x w hl hr)
  rw [hce] at HRW
  have hcl : clearE l rs x = if (cutsI l rs x).length < 2 then (0, 12) else (clearI (cutsI l rs x), 0) := by unfold clearE; rw [hce, if_pos rfl]
  have HCL := Lib.hid (fun r E0 h w hl hr => gClear_v l rs v u x r E0 h w hl hr)
  rw [hcl] at HCL
  have hlen : (cutsI l rs x).length ≤ 12000 := by
    have := cutsE_len l rs x; rw [hce] at this; exact this
  generalize cutsI l rs x = L at *
  clear hcl hC1 hce hin hv
  simp only at HRW HK1 HK2
  obtain ⟨N1, hN1⟩ : ∃ N, (checkI L A).length = N := ⟨_, rfl⟩
  obtain ⟨N2, hN2⟩ : ∃ N, (checkI L B).length = N := ⟨_, rfl⟩
  obtain ⟨M, hM⟩ : ∃ M, L.map Ct.box = M := ⟨_, rfl⟩
  have n0 : N1 ≠ 1 := by rw [← hN1]; exact check_ne_one L A
  have n1 : N1 ≤ N2 := by rw [← hN1, ← hN2]; exact check_mono L hB1.1
  have n2 : N2 ≤ L.length := by rw [← hN2]; exact check_le L B
  have NF := Lib.hid (show L.length < 2 → N1 = 0 from fun h => by rw [← hN1]; exact check_few L A h)
  have NS := Lib.hid (show 2 ≤ L.length → clearI L < leastI 6 A → 2 ≤ N1 from fun h1 h2 => by rw [← hN1]; exact clear_small L A h1 (fun c hc => (hsm c hc).2) h2)
  have NG := Lib.hid (show leastI 40 A ≤ clearI L → N1 = 0 from fun h => by rw [← hN1]; exact clear_great L A (fun c hc => (hsm c hc).2) h)
  have HK1' := Lib.hid (fun w hl hr => (HK1.out w hl hr).mono fun e W h => fds_len hN1 h)
  have HK2' := Lib.hid (fun w hl hr => (HK2.out w hl hr).mono fun e W h => fds_len hN2 h)
  rw [hM] at HRW
  have HRW' := Lib.hid (fun w hl hr => (HRW.out w hl hr).mono fun e W h => bxs_len h)
  have hMl : M.length = L.length := by rw [← hM, List.length_map]
  have hget : ∀ k (h : k < M.length), M[k] = (L.getD k noCt).box := fun k h => by
    subst hM; rw [List.getElem_map, List.getD, List.getElem?_eq_getElem (by omega)]; rfl
  have HSM := Lib.hid (show ∀ k (h : k < M.length), SmallB M[k] from fun k h => by
    subst hM; rw [List.getElem_map]; exact (hsm _ (List.getElem_mem _)).1)
  have HGG := Lib.hid (show ∀ k j (h : k < M.length) (h' : j < M.length), gapB M[k] M[j] = gapK L k j from fun k j h h' => by rw [hget k h, hget j h']; rfl)
  rw [← hMl] at n2 NF NS HCL hlen
  have hcb : 2 ≤ M.length → -4000000 ≤ clearI L ∧ clearI L ≤ 4000000 := fun h => by
    obtain ⟨i, k, h1, h2, h3⟩ := clear_pair L (by omega)
    rw [h3, ← HGG.out i k (by omega) (by omega)]
    exact gapB_bound (HSM.out _ _) (HSM.out _ _)
  have HAG := Lib.hid (show 2 ≤ M.length → clrTo L M.length (clearI L + 1) = clearI L from fun h => by rw [hMl]; exact clear_again L (by omega))
  clear HK1 HK2 HRW hsm hM hN1 hN2 hget hMl
  have d1 : ((N1 : Int) == 1) = false := by simp; omega
  have d2 : decide ((N2 : Int) < (N1 : Int)) = false := by simp; omega
  have d3 : decide ((M.length : Int) < (N2 : Int)) = false := by simp; omega
  go_wp2_with fail
  go_at_call 15; refine (HK1'.out _ (HL.out.below (by (repeat (first | exact grow_refl _ | refine grow_ext _ ?_ | refine grow_alloc _ ?_ | refine grow_drew ?_)))) (HR.out.below (by (repeat (first | exact grow_refl _ | refine grow_ext _ ?_ | refine grow_alloc _ ?_ | refine grow_drew ?_))))).mono ?_; rintro e w' ⟨a1, c1, rfl, k1, k2, x2, rfl⟩
  go_wp2_with fail
  rw [HB.out]
  go_at_call 15; refine (HK2'.out _ (HL.out.below (by (repeat (first | exact grow_refl _ | refine grow_ext _ ?_ | refine grow_alloc _ ?_ | refine grow_drew ?_)))) (HR.out.below (by (repeat (first | exact grow_refl _ | refine grow_ext _ ?_ | refine grow_alloc _ ?_ | refine grow_drew ?_))))).mono ?_; rintro e w' ⟨a2, c2, rfl, k3, k4, x3, rfl⟩
  go_wp2_with fail
  go_at_call 18; refine (HRW'.out _ (HL.out.below (by (repeat (first | exact grow_refl _ | refine grow_ext _ ?_ | refine grow_alloc _ ?_ | refine grow_drew ?_)))) (HR.out.below (by (repeat (first | exact grow_refl _ | refine grow_ext _ ?_ | refine grow_alloc _ ?_ | refine grow_drew ?_))))).mono ?_; rintro e w' ⟨a3, c3, rfl, k5, k6, r3, x4, rfl⟩
  have H3 := Lib.hid r3
  clear r3 HK1' HK2' HRW'
  by_cases h2 : M.length < 2
  · rw [if_pos (by omega)] at HCL
    obtain rfl : N1 = 0 := NF.out h2
    have d4 : decide ((M.length : Int) < 2) = true := by simp; omega
    go_wp2_with fail
    go_at_call 16; refine (HCL.out _ _ rfl _ (HL.out.below (by (repeat (first | exact grow_refl _ | refine grow_ext _ ?_ | refine grow_alloc _ ?_ | refine grow_drew ?_)))) (HR.out.below (by (repeat (first | exact grow_refl _ | refine grow_ext _ ?_ | refine grow_alloc _ ?_ | refine grow_drew ?_))))).mono ?_; rintro e w' ⟨rfl, x5, rfl⟩
    go_wp2
    go_ret
    exact Ret.of (by (repeat (first | exact grow_refl _ | refine grow_ext _ ?_ | refine grow_alloc _ ?_ | refine grow_drew ?_)))
  · rw [if_neg (by omega)] at HCL
    have HCL' := Lib.hid (HCL.out _ _ rfl)
    have h2' : 2 ≤ M.length := by omega
    have NS' := Lib.hid (NS.out (by omega))
    have HAG' := Lib.hid (HAG.out h2')
    obtain ⟨hb0, hb1⟩ := hcb h2'
    clear hcb HCL NS HAG NF
    obtain ⟨C, hC⟩ : ∃ C, clearI L = C := ⟨_, rfl⟩
    rw [hC] at hb0 hb1 NS' NG HAG' HCL'
    clear hC h2
    have HL6 := Lib.hid (fun w => gLeast_c 6 A w)
    have HL40 := Lib.hid (fun w => gLeast_c 40 A w)
    rw [show leastE 6 A = (leastI 6 A, 0) by unfold leastE; rw [if_pos (by decide), if_pos (by unfold inI; simp; omega)]] at HL6
    rw [show leastE 40 A = (leastI 40 A, 0) by unfold leastE; rw [if_pos (by decide), if_pos (by unfold inI; simp; omega)]] at HL40
    obtain ⟨S, hS⟩ : ∃ S, leastI 6 A = S := ⟨_, rfl⟩
    obtain ⟨G, hG⟩ : ∃ G, leastI 40 A = G := ⟨_, rfl⟩
    rw [hS] at HL6 NS'
    rw [hG] at HL40 NG
    clear hS hG
    simp only at HL6 HL40
    go_wp2_with fail
    go_at_call 16; refine (HCL'.out _ (HL.out.below (by (repeat (first | exact grow_refl _ | refine grow_ext _ ?_ | refine grow_alloc _ ?_ | refine grow_drew ?_)))) (HR.out.below (by (repeat (first | exact grow_refl _ | refine grow_ext _ ?_ | refine grow_alloc _ ?_ | refine grow_drew ?_))))).mono ?_; rintro e w' ⟨rfl, x5, rfl⟩
    go_wp2_with fail
    go_at_call 8; refine (HL6.out _).mono ?_; rintro e w' ⟨rfl, x6, rfl⟩
    go_wp2_with fail
    go_at_call 8; refine (HL40.out _).mono ?_; rintro e w' ⟨rfl, x7, rfl⟩
    go_upto_region 16 with fail
    obtain ⟨W1, hW1⟩ : ∃ W : World, W = ext (ext (ext (ext (ext (ext (ext (ext w x0) x1) x2) x3) x4) x5) x6) x7 := ⟨_, rfl⟩
    have HW1 := Lib.hid hW1
    have H4 := Lib.hid (show ∀ i (h : i < M.length), ∃ b off, a3 = some ⟨b, off, none⟩ ∧ BoxAt W1 b (off + i * 6) M[i] from fun i h => by
      obtain ⟨b, off, e, hb⟩ := H3.out i h
      exact ⟨b, off, e, by rw [HW1.out]; exact ((hb.ext _).ext _).ext _⟩)
    rw [← hW1]
    clear hW1 H3
    go_cut [153] (fun s wx => s = .bool false ∧ ∃ x, wx = ext W1 x)
    case first =>
      cases e1 : decide (C < S)
      · cases e2 : decide (G ≤ C)
        · go_wp2
          go_meet
          exact ⟨rfl, ext_of (by (repeat (first | exact grow_refl _ | refine grow_ext _ ?_ | refine grow_alloc _ ?_ | refine grow_drew ?_)))⟩
        · have e3 : N1 = 0 := NG.out (by simpa using e2)
          go_wp2
          go_meet
          exact ⟨by first | rfl | (rw [e3]; rfl), ext_of (by (repeat (first | exact grow_refl _ | refine grow_ext _ ?_ | refine grow_alloc _ ?_ | refine grow_drew ?_)))⟩
      · have e4 : decide ((N1 : Int) < 2) = false := by have := NS'.out (by simpa using e1); simp; omega
        cases e2 : decide (G ≤ C)
        · go_wp2
          go_meet
          exact ⟨rfl, ext_of (by (repeat (first | exact grow_refl _ | refine grow_ext _ ?_ | refine grow_alloc _ ?_ | refine grow_drew ?_)))⟩
        · have e3 := NG.out (by simpa using e2)
          have e5 := NS'.out (by simpa using e1)
          omega
    case rest =>
      obtain ⟨rfl, y, rfl⟩ := hcut
      obtain ⟨D, hD⟩ : ∃ D, C + 1 = D := ⟨_, rfl⟩
      have hDw : IntKind.i64.wrap (C + 1) = D := by rw [hD]; exact IntWalk.i64_in _ (by omega)
      rw [hD] at HAG'
      clear hD d1 d2 d3 NS' NG n0 n1 n2
      go_wp2_with fail
      go_loopw [24, 158] (fun b i wr => ∃ n : Nat, n ≤ M.length ∧ i = .int .i64 n ∧ b = .int .i64 (clrTo L n D) ∧ ∃ z, wr = ext W1 z) (fun _ i _ => M.length - (intOf i).toNat)
      case atStart => exact ⟨0, by omega, rfl, rfl, ext_of (by (repeat (first | exact grow_refl _ | refine grow_ext _ ?_ | refine grow_alloc _ ?_ | refine grow_drew ?_)))⟩
      case round =>
        obtain ⟨n, hn, rfl, rfl, z, rfl⟩ := hrel
        by_cases hlt : n < M.length
        · have i1 : (0 : Int) ≤ (n : Int) := by omega
          have i2 : (n : Int) < (M.length : Int) := by omega
          have HCS := Lib.hid (clrTo_succ L n D)
          obtain ⟨E, hE⟩ : ∃ E, clrTo L n D = E := ⟨_, rfl⟩
          rw [hE] at HCS ⊢
          clear hE
          obtain ⟨b0, off, rfl, hb⟩ := H4.out n hlt
          obtain ⟨p, hp⟩ : ∃ p, M[n] = p := ⟨_, rfl⟩
          have hb' := hb.ext z
          have HGN := Lib.hid (fun k (h : k < M.length) => HGG.out n k hlt h)
          have hps := HSM.out n hlt
          rw [hp] at HGN hb' hps
          clear hb hp
          obtain ⟨p0, p1, p2, p3, p4, p5⟩ := hb'
          go_upto_region 22 with fail
          refine world_mask (fun W => (∃ x, W = ext W1 x) ∧ Blk W (W1.heap.size + z.heap.size) #[.int .i64 p.lx, .int .i64 p.ly, .int .i64 p.lz, .int .i64 p.hx, .int .i64 p.hy, .int .i64 p.hz] 52) _ ⟨ext_of (by (repeat (first | exact grow_refl _ | refine grow_ext _ ?_ | refine grow_alloc _ ?_ | refine grow_drew ?_))), Blk.new' (by simp [size_ext]) _ _⟩ ?_
          rintro W2 ⟨⟨z2, rfl⟩, hR⟩
          obtain ⟨g, hg⟩ : ∃ g, W1.heap.size + z.heap.size = g := ⟨_, rfl⟩
          rw [hg] at hR ⊢
          clear hg p0 p1 p2 p3 p4 p5
          have HRB := Lib.hid hR
          clear hR
          go_wp2_with fail
          go_loopw [24, 167] (fun b i wr => ∃ k : Nat, k ≤ n ∧ i = .int .i64 k ∧ b = .int .i64 (clrIn L n k E) ∧ ∃ z, wr = ext (ext W1 z2) z) (fun _ i _ => n - (intOf i).toNat)
          case atStart => exact ⟨0, by omega, rfl, rfl, ext_of (by (repeat (first | exact grow_refl _ | refine grow_ext _ ?_ | refine grow_alloc _ ?_ | refine grow_drew ?_)))⟩
          case round =>
            obtain ⟨k, hk, rfl, rfl, z, rfl⟩ := hrel
            by_cases hlt2 : k < n
            · have i3 : (0 : Int) ≤ (k : Int) := by omega
              have i4 : (k : Int) < (n : Int) := by omega
              have hkL : k < M.length := by omega
              have HIS := Lib.hid (clrIn_succ L n k E)
              obtain ⟨b1, o1, e1, hq⟩ := H4.out k hkL
              cases e1
              have hG := HGN.out k hkL
              have hqs := HSM.out k hkL
              obtain ⟨q, hqq⟩ : ∃ q, M[k] = q := ⟨_, rfl⟩
              rw [hqq] at hG hqs hq
              have HGE := Lib.hid (show max (q.ly - p.hy) (max (p.ly - q.hy) (max (q.lz - p.hz) (p.lz - q.hz))) = gapK L n k from hG)
              obtain ⟨q0, q1, q2, q3, q4, q5⟩ := (hq.ext z2).ext z
              have g0 : (ext (ext W1 z2) z).cell? ⟨g, 0, none⟩ = some (.int .i64 p.lx) := (HRB.out.ext z).cell 0
              have g1 : (ext (ext W1 z2) z).cell? ⟨g, 1, none⟩ = some (.int .i64 p.ly) := (HRB.out.ext z).cell 1
              have g2 : (ext (ext W1 z2) z).cell? ⟨g, 2, none⟩ = some (.int .i64 p.lz) := (HRB.out.ext z).cell 2
              have g3 : (ext (ext W1 z2) z).cell? ⟨g, 3, none⟩ = some (.int .i64 p.hx) := (HRB.out.ext z).cell 3
              have g4 : (ext (ext W1 z2) z).cell? ⟨g, 4, none⟩ = some (.int .i64 p.hy) := (HRB.out.ext z).cell 4
              have g5 : (ext (ext W1 z2) z).cell? ⟨g, 5, none⟩ = some (.int .i64 p.hz) := (HRB.out.ext z).cell 5
              obtain ⟨⟨a1, a2⟩, ⟨a3, a4⟩, ⟨a5, a6⟩, a7, a8⟩ := hps
              obtain ⟨⟨b1, b2⟩, ⟨b3, b4⟩, ⟨b5, b6⟩, b7, b8⟩ := hqs
              clear hG hqq hq
              go_upto_region 26 with fail
              rw [HGE.out]
              generalize gapK L n k = GK at *
              generalize clrIn L n k E = CK at *
              clear q0 q1 q2 q3 q4 q5 g0 g1 g2 g3 g4 g5
              go_wp2
              go_roundw
              case rel => exact ⟨k + 1, by omega, by go_num, by rw [HIS.out], ext_of (by (repeat (first | exact grow_refl _ | refine grow_ext _ ?_ | refine grow_alloc _ ?_ | refine grow_drew ?_)))⟩
              case measure => simp [intOf]; omega
            · obtain rfl : k = n := by omega
              go_wp2
              go_roundw
              case rel => exact ⟨k + 1, by omega, by go_num, by rw [HCS.out], ext_of (by (repeat (first | exact grow_refl _ | refine grow_ext _ ?_ | refine grow_alloc _ ?_ | refine grow_drew ?_)))⟩
              case measure => simp [intOf]; omega
        · obtain rfl : n = M.length := by omega
          rw [HAG'.out]
          go_wp2
          go_ret
          exact Ret.of (by rw [HW1.out]; (repeat (first | exact grow_refl _ | refine grow_ext _ ?_ | refine grow_alloc _ ?_ | refine grow_drew ?_)))

theorem lawGapsNear_c (l : List Br) (v : Value) (rs : List Rn) (u : Value) (x qa qm : Int) (_ : -9223372036854775808 ≤ x ∧ x ≤ 9223372036854775807) (ha : 0 ≤ qa ∧ qa ≤ 255) (hm : 0 ≤ qm ∧ qm ≤ 255) (w : World) (hl : Bars w v l) (hr : Runs w u rs) :
    Calls Try.prog 5 #[v, u, .int .i64 x, .int .u8 qa, .int .u8 qm] w (Ret w (.bool true)) := lawNear_ok l rs v u x qa qm ha hm w hl hr

end Go.Proofs.Ytofjopdcbmaijaa

/- The reference's clear gap: stirrupref21.Gap, Clear. -/
import Derived.Test.YtofjopdcbmaijaaGreatRefM3
import Derived.Test.YtofjopdcbmaijaaGreatPlainG
namespace Go.Proofs.YtofjopdcbmaijaaGreat
open Go.RowKit
set_option maxRecDepth 20000

theorem alongI_gap (a b : Bx) : max (alongI a b 1) (alongI a b 2) = gapB a b := by
  unfold alongI gapB Bx.lo Bx.hi
  simp only [Int.reduceEq, if_false, if_true]
  omega

set_option maxHeartbeats 1000000 in
theorem refGap21_c (a b : Rc) (ha : Bd a.box) (hb : Bd b.box) (w : World) : Calls Tryz.prog 42 #[(.agg #[.int .i64 a.box.lx, .int .i64 a.box.ly, .int .i64 a.box.lz, .int .i64 a.box.hx, .int .i64 a.box.hy, .int .i64 a.box.hz, .int .i64 a.bar]), (.agg #[.int .i64 b.box.lx, .int .i64 b.box.ly, .int .i64 b.box.lz, .int .i64 b.box.hx, .int .i64 b.box.hy, .int .i64 b.box.hz, .int .i64 b.bar])] w (Ret w (.int .i64 (gapB a.box b.box))) := by
  have HE := Lib.hid (alongI_gap a.box b.box)
  go_enter Tryz.func42, Tryz.ntmps42
  go_wp2
  refine wp_region_grows (by kernel_rfl) (by kernel_rfl) ?_
  repeat (go_big_quiet_step ((go_at_call 86; refine Calls.quiet_ext (refAlong_c a.box b.box _ ?_ ha hb _); omega)))
  refine wpQuiet_nil ?_; rintro _ ⟨xq, rfl⟩
  go_wp2
  go_ret
  rw [HE.out]
  exact Ret.of (by (repeat (first | exact grow_refl _ | refine grow_ext _ ?_ | refine grow_alloc _ ?_ | refine grow_drew ?_)))

set_option maxRecDepth 100000 in
set_option maxHeartbeats 4000000 in
theorem refClear21_c (R : List Rc) (L : List Ct) (v : Value) (hRL : R.map Rc.box = L.map Ct.box) (hn : 2 ≤ R.length) (hlen : R.length ≤ 12000) (hbd : ∀ c ∈ R, Bd c.box) (w : World) (hv : Rcs w v R) :
    Calls Tryz.prog 13 #[v] w (Ret w (.int .i64 (clearI L))) := by
  obtain ⟨a, cap, rfl, h2, h3, h4⟩ := hv.shape
  have H4 := Lib.hid h4
  have hll : R.length = L.length := by have := congrArg List.length hRL; simpa using this
  have hbox : ∀ i (h : i < R.length), (L.getD i noCt).box = R[i].box := fun i h => by
    have h1 : (R.map Rc.box)[i]? = (L.map Ct.box)[i]? := by rw [hRL]
    rw [List.getElem?_map, List.getElem?_map, List.getElem?_eq_getElem h, List.getElem?_eq_getElem (by omega)] at h1
    rw [getD_lt (by omega)]
    simpa using h1.symm
  have HG := Lib.hid (show ∀ i k (hi : i < R.length) (hk : k < R.length) w, Calls Tryz.prog 42 #[(.agg #[.int .i64 R[i].box.lx, .int .i64 R[i].box.ly, .int .i64 R[i].box.lz, .int .i64 R[i].box.hx, .int .i64 R[i].box.hy, .int .i64 R[i].box.hz, .int .i64 R[i].bar]), (.agg #[.int .i64 R[k].box.lx, .int .i64 R[k].box.ly, .int .i64 R[k].box.lz, .int .i64 R[k].box.hx, .int .i64 R[k].box.hy, .int .i64 R[k].box.hz, .int .i64 R[k].bar])] w (Ret w (.int .i64 (gapK L i k))) from fun i k hi hk w => by
    have := refGap21_c R[i] R[k] (hbd _ (List.getElem_mem hi)) (hbd _ (List.getElem_mem hk)) w
    rw [show gapK L i k = gapB R[i].box R[k].box by unfold gapK; rw [hbox i hi, hbox k hk]]
    exact this)
  have HCI := Lib.hid (show clearI L = clrTo L R.length (gapK L 0 1) by rw [hll]; rfl)
  clear hv h4 hbd hRL hbox hll
  obtain ⟨b0, off, rfl, hct⟩ := H4.out 0 (by omega)
  obtain ⟨b0', off', e', hct1⟩ := H4.out 1 (by omega)
  cases e'
  obtain ⟨p0, p1, p2, p3, p4, p5, p6⟩ := hct
  obtain ⟨q0, q1, q2, q3, q4, q5, q6⟩ := hct1
  have HG0 := Lib.hid (fun w => HG.out 0 1 (by omega) (by omega) w)
  generalize R[0] = c0 at *
  generalize R[1] = c1 at *
  have l0 : (0 : Int) < (R.length : Int) := by omega
  have l1 : (1 : Int) < (R.length : Int) := by omega
  obtain ⟨G0, hG0⟩ : ∃ G, gapK L 0 1 = G := ⟨_, rfl⟩
  rw [hG0] at HG0 HCI
  clear hG0
  simp only [Nat.zero_mul, Nat.one_mul, Nat.add_zero] at p0 p1 p2 p3 p4 p5 p6 q0 q1 q2 q3 q4 q5 q6
  go_enter Tryz.func13, Tryz.ntmps13
  go_wp2_with fail
  refine wp_region_grows (by kernel_rfl) (by kernel_rfl) ?_
  repeat (go_big_quiet_step ((go_at_call 42; exact Calls.quiet_ext (HG0.out _))))
  refine wpQuiet_nil ?_; rintro _ ⟨xq, rfl⟩
  clear p0 p1 p2 p3 p4 p5 p6 q0 q1 q2 q3 q4 q5 q6
  go_wp2_with fail
  go_loopw [3, 4] (fun b i wr => ∃ n : Nat, n ≤ R.length ∧ i = .int .i64 n ∧ b = .int .i64 (clrTo L n G0) ∧ ∃ z, wr = ext w z) (fun _ i _ => R.length - (intOf i).toNat)
  case atStart => exact ⟨0, by omega, rfl, rfl, ext_of (by (repeat (first | exact grow_refl _ | refine grow_ext _ ?_ | refine grow_alloc _ ?_ | refine grow_drew ?_)))⟩
  case round =>
    obtain ⟨n, hn, rfl, rfl, z, rfl⟩ := hrel
    by_cases hlt : n < R.length
    · have i1 : (0 : Int) ≤ (n : Int) := by omega
      have i2 : (n : Int) < (R.length : Int) := by omega
      have HCS := Lib.hid (clrTo_succ L n G0)
      obtain ⟨B, hB⟩ : ∃ B, clrTo L n G0 = B := ⟨_, rfl⟩
      rw [hB] at HCS ⊢
      clear hB
      go_wp2_with fail
      go_loopw [3, 5] (fun b i wr => ∃ k : Nat, k ≤ n ∧ i = .int .i64 k ∧ b = .int .i64 (clrIn L n k B) ∧ ∃ z, wr = ext w z) (fun _ i _ => n - (intOf i).toNat)
      case atStart => exact ⟨0, by omega, rfl, rfl, ext_of (by (repeat (first | exact grow_refl _ | refine grow_ext _ ?_ | refine grow_alloc _ ?_ | refine grow_drew ?_)))⟩
      case round =>
        obtain ⟨k, hk, rfl, rfl, z, rfl⟩ := hrel
        by_cases hlt2 : k < n
        · have i3 : (0 : Int) ≤ (k : Int) := by omega
          have i4 : (k : Int) < (n : Int) := by omega
          have i5 : (k : Int) < (R.length : Int) := by omega
          have hkL : k < R.length := by omega
          have HIS := Lib.hid (clrIn_succ L n k B)
          rw [gapK_comm] at HIS
          obtain ⟨b1, o1, e1, hp⟩ := H4.out n hlt
          cases e1
          obtain ⟨b2, o2, e2, hq⟩ := H4.out k hkL
          cases e2
          obtain ⟨p0, p1, p2, p3, p4, p5, p6⟩ := hp.ext z
          obtain ⟨q0, q1, q2, q3, q4, q5, q6⟩ := hq.ext z
          have HGN := Lib.hid (fun w => HG.out k n hkL hlt w)
          generalize R[n] = cn at *
          generalize R[k] = ck at *
          generalize gapK L k n = G at *
          generalize clrIn L n k B = C at *
          clear hp hq hkL
          go_wp2_with fail
          refine wp_region_grows (by kernel_rfl) (by kernel_rfl) ?_
          repeat (go_big_quiet_step ((go_at_call 42; exact Calls.quiet_ext (HGN.out _))))
          refine wpQuiet_nil ?_; rintro _ ⟨xq, rfl⟩
          clear p0 p1 p2 p3 p4 p5 p6 q0 q1 q2 q3 q4 q5 q6
          go_wp2
          go_roundw
          case rel => exact ⟨k + 1, by omega, by go_num, by rw [HIS.out], ext_of (by (repeat (first | exact grow_refl _ | refine grow_ext _ ?_ | refine grow_alloc _ ?_ | refine grow_drew ?_)))⟩
          case measure => simp [intOf]; omega
        · obtain rfl : k = n := by omega
          go_wp2
          go_roundw
          case rel => exact ⟨k + 1, by omega, by go_num, by rw [HCS.out], ext_of (by (repeat (first | exact grow_refl _ | refine grow_ext _ ?_ | refine grow_alloc _ ?_ | refine grow_drew ?_)))⟩
          case measure => simp [intOf]; omega
    · obtain rfl : n = R.length := by omega
      go_wp2
      go_ret
      rw [HCI.out]
      exact Ret.of (by (repeat (first | exact grow_refl _ | refine grow_ext _ ?_ | refine grow_alloc _ ?_ | refine grow_drew ?_)))

end Go.Proofs.YtofjopdcbmaijaaGreat

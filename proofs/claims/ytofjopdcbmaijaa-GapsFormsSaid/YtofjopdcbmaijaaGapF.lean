/- The findings at a place: gaps.Check. -/
import Derived.Test.YtofjopdcbmaijaaGapE
import Derived.Test.YtofjopdcbmaijaaFds
namespace Go.Proofs.Ytofjopdcbmaijaa
open Go.RowKit
set_option maxRecDepth 20000

def tooB (L : List Ct) (a : Int) (n k : Nat) : Bool := decide (n ≠ k) && decide (gapK L n k < leastI (max (L.getD n noCt).size (L.getD k noCt).size) a)
def nearTo (L : List Ct) (a : Int) (n k : Nat) : Bool := (List.range k).any (tooB L a n)
theorem nearTo_succ (L : List Ct) (a : Int) (n k : Nat) : nearTo L a n (k + 1) = (nearTo L a n k || tooB L a n k) := by
  unfold nearTo; rw [List.range_succ, List.any_append]; simp
def checkTo (L : List Ct) (a : Int) (n : Nat) : List ByteArray := (List.range n).filterMap fun i => if nearTo L a i L.length = true then some (L.getD i noCt).mark else none
theorem checkTo_succ (L : List Ct) (a : Int) (n : Nat) : checkTo L a (n + 1) = checkTo L a n ++ (if nearTo L a n L.length = true then [(L.getD n noCt).mark] else []) := by
  unfold checkTo; rw [List.range_succ, List.filterMap_append]
  split <;> simp_all
theorem checkTo_len (L : List Ct) (a : Int) (n : Nat) : (checkTo L a n).length ≤ n := by
  unfold checkTo
  have := List.length_filterMap_le (fun i => if nearTo L a i L.length = true then some (L.getD i noCt).mark else none) (List.range n)
  rwa [List.length_range] at this
def checkI (L : List Ct) (a : Int) : List ByteArray := checkTo L a L.length
def checkE (l : List Br) (rs : List Rn) (a x : Int) : List ByteArray × Int := if (cutsE l rs x).2 = 0 then (if inI a 1 100 = true then (checkI (cutsE l rs x).1 a, 0) else ([], 2)) else ([], (cutsE l rs x).2)
/-- Findings of the call's own, and an error number. -/
def RetFds (w : World) (l : List ByteArray) (err : Int) (e : Ending) (w' : World) : Prop :=
  ∃ v, e = .returned (.tuple #[v, .int .i64 err]) ∧ w'.ownsRow w.heap.size 59 2 v l.length (fdCells l) ∧ ∃ x, w' = ext w x
def ctArr (c : Ct) : Array Value := #[.int .i64 c.box.lx, .int .i64 c.box.ly, .int .i64 c.box.lz, .int .i64 c.box.hx, .int .i64 c.box.hy, .int .i64 c.box.hz, .int .i64 c.size, .string c.mark]

set_option maxRecDepth 100000 in
set_option maxHeartbeats 8000000 in
theorem gCheck_c (l : List Br) (rs : List Rn) (v u : Value) (a x : Int) (w : World) (hl : Bars w v l) (hr : Runs w u rs) :
    Calls Try.prog 15 #[v, u, .int .i64 a, .int .i64 x] w (RetFds w (checkE l rs a x).1 (checkE l rs a x).2) := by
  have HC := Lib.hid (fun w hl hr => cuts_c l rs v u x w hl hr)
  have HL := Lib.hid hl
  have HR := Lib.hid hr
  have hlen := cutsE_len l rs x
  have hsm := fun c hc => cutsE_small (l := l) (rs := rs) (x := x) c hc
  unfold checkE
  generalize (cutsE l rs x).1 = L at *
  generalize (cutsE l rs x).2 = E at *
  clear hl hr
  by_cases he : E = 0
  · rw [if_pos he]
    subst he
    cases ha : inI a 1 100
    · simp only [Bool.false_eq_true, if_false]
      have HA := Lib.hid ha
      clear hsm ha
      go_enter Try.func15, Try.ntmps15
      go_wp2_with fail
      go_at_call 28; refine (HC.out _ (HL.out.below (by (repeat (first | exact grow_refl _ | refine grow_ext _ ?_ | refine grow_alloc _ ?_ | refine grow_drew ?_)))) (HR.out.below (by (repeat (first | exact grow_refl _ | refine grow_ext _ ?_ | refine grow_alloc _ ?_ | refine grow_drew ?_))))).mono ?_; rintro e w' ⟨v8, rfl, hown, x1, rfl⟩
      obtain ⟨a8, c8, rfl, -, -, -⟩ := own_shape hown
      clear hown
      go_wp2_with fail
      go_at_call 25; refine (gwithin_v _ _ _ _ HA.out _).mono ?_; rintro e w' ⟨rfl, x2, rfl⟩
      go_wp2
      go_ret2
      exact ⟨_, rfl, World.ownsRow_nil _ _ _ _, ext_of (by (repeat (first | exact grow_refl _ | refine grow_ext _ ?_ | refine grow_alloc _ ?_ | refine grow_drew ?_)))⟩
    · simp only [if_true]
      have HA := Lib.hid ha
      have HSM := Lib.hid hsm
      have HLE := Lib.hid (fun d w => gleast_c d a (inI_iff.1 ha) w)
      clear hsm ha
      go_enter Try.func15, Try.ntmps15
      go_wp2_with fail
      go_at_call 28; refine (HC.out _ (HL.out.below (by (repeat (first | exact grow_refl _ | refine grow_ext _ ?_ | refine grow_alloc _ ?_ | refine grow_drew ?_)))) (HR.out.below (by (repeat (first | exact grow_refl _ | refine grow_ext _ ?_ | refine grow_alloc _ ?_ | refine grow_drew ?_))))).mono ?_; rintro e w' ⟨v8, rfl, hown, x1, rfl⟩
      obtain ⟨a8, cap, rfl, h2, h3, h4⟩ := Cts.of_own hown
      have H4 := Lib.hid h4
      have HOW := Lib.hid hown
      clear h4 hown
      go_wp2_with fail
      go_at_call 25; refine (gwithin_v _ _ _ _ HA.out _).mono ?_; rintro e w' ⟨rfl, x2, rfl⟩
      go_wp2_with fail
      refine world_mask (fun W => (∃ z, W = ext (ext w x1) z)) _ ⟨_, rfl⟩ ?_
      rintro W1 hz1
      obtain ⟨W0, hW0⟩ : ∃ W0, ext w x1 = W0 := ⟨_, rfl⟩
      rw [hW0] at hz1 H4
      have HW0 := Lib.hid (show Below w.heap.size w W0 by rw [← hW0]; exact below_ext _ _)
      clear hW0 HOW
      go_loopw [12, 35] (fun v i wr => ∃ n : Nat, n ≤ L.length ∧ i = .int .i64 n ∧ (∃ z, wr = ext W0 z) ∧ wr.ownsRow W0.heap.size 59 2 v (checkTo L a n).length (fdCells (checkTo L a n))) (fun _ i _ => L.length - (intOf i).toNat)
      case atStart => exact ⟨0, by omega, rfl, hz1, World.ownsRow_nil _ _ _ _⟩
      case round =>
        clear hz1
        obtain ⟨n, hn, rfl, ⟨z, rfl⟩, hown⟩ := hrel
        have HO := Lib.hid hown
        obtain ⟨av, cv, rfl, hv1, hv2, -⟩ := own_shape hown
        have hv3 : cv ≤ 9223372036854775807 := hv2
        have HCL := Lib.hid (checkTo_len L a n)
        clear hown
        by_cases hlt : n < L.length
        · have i1 : (0 : Int) ≤ (n : Int) := by omega
          have i2 : (n : Int) < (L.length : Int) := by omega
          have HCS := Lib.hid (checkTo_succ L a n)
          obtain ⟨b0, o0, rfl, hp⟩ := H4.out n hlt
          have hgd : L.getD n noCt = L[n] := getD_lt hlt
          have hcsm := HSM.out _ (List.getElem_mem hlt)
          obtain ⟨cn, hcn⟩ : ∃ c, L[n] = c := ⟨_, rfl⟩
          rw [hcn] at hp hgd hcsm
          obtain ⟨p0, p1, p2, p3, p4, p5, p6, p7⟩ := hp.ext z
          have HCN := Lib.hid hgd
          have HCSM := Lib.hid hcsm
          have hcl := HCL.out
          generalize checkTo L a n = CT at *
          clear hcn hp hgd hcsm
          go_wp2_with fail
          clear p0 p1 p2 p3 p4 p5 p6 p7
          obtain ⟨g14, hg14⟩ : ∃ g, g = W0.heap.size + z.heap.size := ⟨_, rfl⟩
          rw [← hg14]
          refine world_mask (fun W => (∃ z, W = ext W0 z) ∧ Blk W g14 (ctArr cn) 69 ∧ W.ownsRow W0.heap.size 59 2 (.slice av CT.length cv) CT.length (fdCells CT)) _ ⟨ext_of (grow_alloc _ (below_ext _ _)), Blk.new' (by rw [hg14, size_ext]) _ _, HO.out.alloc _⟩ ?_
          clear hg14 HO
          rintro W2 ⟨hz2, hb2, ho2⟩
          have HZ2 := Lib.hid hz2
          have HB2 := Lib.hid hb2
          have HO := Lib.hid ho2
          have H42 := Lib.hid (show ∀ i (h : i < L.length), ∃ b off, some (⟨b0, o0, none⟩ : Addr) = some ⟨b, off, none⟩ ∧ CtAt W2 b (off + i * 8) L[i] from by
            obtain ⟨z, rfl⟩ := hz2
            exact fun i h => let ⟨b, off, e, hc⟩ := H4.out i h; ⟨b, off, e, hc.ext z⟩)
          clear hz2 hb2 ho2
          go_loopw [15, 42] (fun nr i wr => ∃ k : Nat, k ≤ L.length ∧ i = .int .i64 k ∧ nr = .bool (nearTo L a n k) ∧ ∃ z, wr = ext W2 z) (fun _ i _ => L.length - (intOf i).toNat)
          case atStart => exact ⟨0, by omega, rfl, rfl, ext_of (Below.refl _ _)⟩
          case round =>
            obtain ⟨k, hk, rfl, rfl, y, rfl⟩ := hrel
            by_cases hltk : k < L.length
            · have i3 : (0 : Int) ≤ (k : Int) := by omega
              have i4 : (k : Int) < (L.length : Int) := by omega
              have HNX := Lib.hid (nearTo_succ L a n k)
              obtain ⟨b1, o1, e1, hq⟩ := H42.out k hltk
              cases e1
              have hgdk : L.getD k noCt = L[k] := getD_lt hltk
              have hksm := HSM.out _ (List.getElem_mem hltk)
              have HTB := Lib.hid (show tooB L a n k = (decide (n ≠ k) && decide (gapB cn.box L[k].box < leastI (max cn.size L[k].size) a)) by unfold tooB gapK; rw [HCN.out, hgdk])
              obtain ⟨ck, hck⟩ : ∃ c, L[k] = c := ⟨_, rfl⟩
              rw [hck] at hq hksm HTB
              have bn := HB2.out.ext y
              have p0 : (ext W2 y).cell? ⟨g14, 0, none⟩ = some (.int .i64 cn.box.lx) := bn.cell 0
              have p1 : (ext W2 y).cell? ⟨g14, 1, none⟩ = some (.int .i64 cn.box.ly) := bn.cell 1
              have p2 : (ext W2 y).cell? ⟨g14, 2, none⟩ = some (.int .i64 cn.box.lz) := bn.cell 2
              have p3 : (ext W2 y).cell? ⟨g14, 3, none⟩ = some (.int .i64 cn.box.hx) := bn.cell 3
              have p4 : (ext W2 y).cell? ⟨g14, 4, none⟩ = some (.int .i64 cn.box.hy) := bn.cell 4
              have p5 : (ext W2 y).cell? ⟨g14, 5, none⟩ = some (.int .i64 cn.box.hz) := bn.cell 5
              have p6 : (ext W2 y).cell? ⟨g14, 6, none⟩ = some (.int .i64 cn.size) := bn.cell 6
              obtain ⟨q0, q1, q2, q3, q4, q5, q6, q7⟩ := hq.ext y
              have HG := Lib.hid (fun w => gap_c cn.box ck.box HCSM.out.1 hksm.1 w)
              have HLS := Lib.hid (fun w => HLE.out (max cn.size ck.size) w)
              generalize gapB cn.box ck.box = G at *
              generalize leastI (max cn.size ck.size) a = LS at *
              generalize nearTo L a n k = NK at *
              clear hq hck hgdk hksm bn
              cases NK
              · by_cases hnk : n = k
                · have e1 : ((n : Int) != (k : Int)) = false := by simp [hnk]
                  have HNX := Lib.hid (show nearTo L a n (k + 1) = false by rw [HNX.out, HTB.out, decide_eq_false (fun h => h hnk)]; rfl)
                  clear hnk
                  go_wp2_with fail
                  refine wp_region_grows (by kernel_rfl) (by kernel_rfl) ?_
                  repeat (go_big_quiet_step (fail))
                  refine wpQuiet_nil ?_; rintro _ ⟨xq, rfl⟩
                  go_wp2
                  go_roundw
                  case rel => exact ⟨k + 1, by omega, by go_num, by rw [HNX.out]; try rw [decide_eq_false (by omega)], ext_of (by (repeat (first | exact grow_refl _ | refine grow_ext _ ?_ | refine grow_alloc _ ?_ | refine grow_drew ?_)))⟩
                  case measure => simp [intOf]; omega
                · have e1 : ((n : Int) != (k : Int)) = true := by simp; omega
                  by_cases hgl : G < LS
                  · have HNX := Lib.hid (show nearTo L a n (k + 1) = true by rw [HNX.out, HTB.out, decide_eq_true hnk, decide_eq_true hgl]; rfl)
                    clear hnk
                    go_wp2_with fail
                    refine wp_region_grows (by kernel_rfl) (by kernel_rfl) ?_
                    repeat (go_big_quiet_step ((first | (go_at_call 29; exact Calls.quiet_ext (HG.out _)) | (go_at_call 26; exact Calls.quiet_ext (HLS.out _)))))
                    refine wpQuiet_nil ?_; rintro _ ⟨xq, rfl⟩
                    go_wp2
                    go_roundw
                    case rel => exact ⟨k + 1, by omega, by go_num, by rw [HNX.out]; try rw [decide_eq_false (by omega)], ext_of (by (repeat (first | exact grow_refl _ | refine grow_ext _ ?_ | refine grow_alloc _ ?_ | refine grow_drew ?_)))⟩
                    case measure => simp [intOf]; omega
                  · have HNX := Lib.hid (show nearTo L a n (k + 1) = false by rw [HNX.out, HTB.out, decide_eq_false hgl, Bool.and_false]; rfl)
                    clear hnk
                    go_wp2_with fail
                    refine wp_region_grows (by kernel_rfl) (by kernel_rfl) ?_
                    repeat (go_big_quiet_step ((first | (go_at_call 29; exact Calls.quiet_ext (HG.out _)) | (go_at_call 26; exact Calls.quiet_ext (HLS.out _)))))
                    refine wpQuiet_nil ?_; rintro _ ⟨xq, rfl⟩
                    go_wp2
                    go_roundw
                    case rel => exact ⟨k + 1, by omega, by go_num, by rw [HNX.out]; try rw [decide_eq_false (by omega)], ext_of (by (repeat (first | exact grow_refl _ | refine grow_ext _ ?_ | refine grow_alloc _ ?_ | refine grow_drew ?_)))⟩
                    case measure => simp [intOf]; omega
              · have HNX := Lib.hid (show nearTo L a n (k + 1) = true by rw [HNX.out]; rfl)
                go_wp2_with fail
                refine wp_region_grows (by kernel_rfl) (by kernel_rfl) ?_
                repeat (go_big_quiet_step (fail))
                refine wpQuiet_nil ?_; rintro _ ⟨xq, rfl⟩
                go_wp2
                go_roundw
                case rel => exact ⟨k + 1, by omega, by go_num, by rw [HNX.out]; try rw [decide_eq_false (by omega)], ext_of (by (repeat (first | exact grow_refl _ | refine grow_ext _ ?_ | refine grow_alloc _ ?_ | refine grow_drew ?_)))⟩
                case measure => simp [intOf]; omega
            · obtain rfl : k = L.length := by omega
              have bn := HB2.out.ext y
              have p7 : (ext W2 y).cell? ⟨g14, 7, none⟩ = some (.string cn.mark) := bn.cell 7
              have HOY := Lib.hid (own_ext HO.out y)
              have HZY := Lib.hid (show ∃ z, ext W2 y = ext W0 z by obtain ⟨z2, e⟩ := HZ2.out; rw [e, ext_ext]; exact ⟨_, rfl⟩)
              rw [HCN.out] at HCS
              generalize nearTo L a n L.length = NK at *
              clear bn
              cases NK
              · have HCS := Lib.hid (show checkTo L a (n + 1) = CT by rw [HCS.out]; simp)
                go_wp2
                go_roundw
                case rel => exact ⟨n + 1, by omega, by go_num, HZY.out, by rw [HCS.out]; exact HOY.out⟩
                case measure => simp [intOf]; omega
              · have HCS := Lib.hid (show checkTo L a (n + 1) = CT ++ [cn.mark] by rw [HCS.out]; simp)
                have hsz : W0.heap.size ≤ W2.heap.size := by obtain ⟨z2, e⟩ := HZ2.out; rw [e, size_ext]; omega
                go_wp2_with (at_builtin; refine app_own_b rfl _ _ 43 rfl 59 (.agg #[.int .i64 0, .string ⟨#[]⟩]) 2 24 Try.underlying43 info_fd rfl (by decide) (W0.heap.size) (.slice av CT.length cv) (CT.length) (fdCells CT) _ rfl (HOY.out.alloc _) _ 1 1 (fdCells [cn.mark]) rfl rfl (cells_new ?_ _ _ _ rfl) (fdCells_one _) (by omega) (by decide) ?_ ?_; (first | rfl | simp [size_ext]); (simp only [World.size_alloc, size_ext]; omega); intro v' w1 hown' hgrow; have HO2 := Lib.hid hown'; obtain ⟨a', c', rfl, _, hc2, -⟩ := own_shape hown'; have hc3 : c' ≤ 9223372036854775807 := hc2; have HGR := Lib.hid hgrow; clear hown' hgrow hc2)
                go_roundw
                case rel =>
                  refine ⟨n + 1, by omega, by go_num, ?_, ?_⟩
                  · obtain ⟨zz, ez⟩ := HZY.out
                    have hg := HGR.out
                    rw [ez] at hg
                    exact ext_grown2 (grow_alloc _ (below_ext _ _)) hg (fun j e => (HOY.out.lt j e).1)
                  · rw [HCS.out]
                    exact own_fds HO2.out rfl
                case measure => simp [intOf]; omega
        · obtain rfl : n = L.length := by omega
          go_wp2
          go_ret2
          exact ⟨_, rfl, own_mono HO.out HW0.out.size, ext_of (HW0.out.trans ((below_ext W0 z).mono HW0.out.size))⟩
  · rw [if_neg he]
    have d1 : (E != 0) = true := by simpa using he
    clear he hsm
    go_enter Try.func15, Try.ntmps15
    go_wp2_with fail
    go_at_call 28; refine (HC.out _ (HL.out.below (by (repeat (first | exact grow_refl _ | refine grow_ext _ ?_ | refine grow_alloc _ ?_ | refine grow_drew ?_)))) (HR.out.below (by (repeat (first | exact grow_refl _ | refine grow_ext _ ?_ | refine grow_alloc _ ?_ | refine grow_drew ?_))))).mono ?_; rintro e w' ⟨v8, rfl, hown, x1, rfl⟩
    obtain ⟨a8, c8, rfl, -, -, -⟩ := own_shape hown
    clear hown
    go_wp2
    go_ret2
    exact ⟨_, rfl, World.ownsRow_nil _ _ _ _, ext_of (by (repeat (first | exact grow_refl _ | refine grow_ext _ ?_ | refine grow_alloc _ ?_ | refine grow_drew ?_)))⟩

end Go.Proofs.Ytofjopdcbmaijaa

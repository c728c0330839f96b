/- SolD, SolE in one text. -/
import Derived.Test.YtafkibnkpcmmgaaSolK
import Derived.Test.YtafkibnkpcmmgaaExtK
import Derived.Test.YtafkibnkpcmmgaaYield
import Derived.BigRegion
import Derived.RegionTactic
import Derived.Deep.DeepCutAuto
import Derived.Deep.CutBlock
namespace Go.Proofs.Ytafkibnkpcmmgaa
open Go.RowKit
set_option maxRecDepth 20000

set_option maxHeartbeats 400000 in
theorem each1_c (x y z : Int) (w : World) : Calls Try.prog 79 #[(.agg #[.int .i64 x, .int .i64 y, .int .i64 z])] w (Ret w (.int .i64 x)) := by
  go_enter Try.func79, Try.ntmps79
  go_wp2
  go_ret
  exact Ret.of (by (repeat (first | exact grow_refl _ | refine grow_ext _ ?_ | refine grow_alloc _ ?_ | refine grow_drew ?_)))
set_option maxHeartbeats 400000 in
theorem each2_c (x y z : Int) (w : World) : Calls Try.prog 80 #[(.agg #[.int .i64 x, .int .i64 y, .int .i64 z])] w (Ret w (.int .i64 y)) := by
  go_enter Try.func80, Try.ntmps80
  go_wp2
  go_ret
  exact Ret.of (by (repeat (first | exact grow_refl _ | refine grow_ext _ ?_ | refine grow_alloc _ ?_ | refine grow_drew ?_)))
set_option maxHeartbeats 400000 in
theorem each3_c (x y z : Int) (w : World) : Calls Try.prog 81 #[(.agg #[.int .i64 x, .int .i64 y, .int .i64 z])] w (Ret w (.int .i64 z)) := by
  go_enter Try.func81, Try.ntmps81
  go_wp2
  go_ret
  exact Ret.of (by (repeat (first | exact grow_refl _ | refine grow_ext _ ?_ | refine grow_alloc _ ?_ | refine grow_drew ?_)))
theorem enters_each1 : Enters 79 := enters_of Try.func79 (by decide) (by simp [Try.f79])
theorem enters_each2 : Enters 80 := enters_of Try.func80 (by decide) (by simp [Try.f80])
theorem enters_each3 : Enters 81 := enters_of Try.func81 (by decide) (by simp [Try.f81])

def within2To (lo hi : Int) (k : Int) (x : Bx) (q : Nat) : List Int := if q = 0 then [] else if q = 1 then (if lo ≤ x.lo k ∧ x.lo k ≤ hi then [x.lo k] else []) else within2 lo hi k x
theorem within2To_length (lo hi : Int) (k : Int) (x : Bx) (q : Nat) : (within2To lo hi k x q).length ≤ 2 := by
  unfold within2To
  split
  · simp
  · split
    · split <;> simp
    · exact within2_length lo hi k x

set_option maxRecDepth 100000 in
set_option maxHeartbeats 8000000 in
theorem solidCuts_c (F : Nat) (hE : Enters F) (k : Int) (hLo : ∀ (b : Bx) (w : World), Calls Try.prog F #[(.agg #[.int .i64 b.lx, .int .i64 b.ly, .int .i64 b.lz])] w (Ret w (.int .i64 (b.lo k)))) (hHi : ∀ (b : Bx) (w : World), Calls Try.prog F #[(.agg #[.int .i64 b.hx, .int .i64 b.hy, .int .i64 b.hz])] w (Ret w (.int .i64 (b.hi k))))
    (l m : List Bx) (u t : Value) (H : Bx) (w : World) (hl : Boxes w u l) (hm : Boxes w t m) (hll : l.length ≤ 100) (hml : m.length ≤ 100) :
    Calls Try.prog 78 #[.agg #[u, t], (.agg #[.int .i64 H.lx, .int .i64 H.ly, .int .i64 H.lz, .int .i64 H.hx, .int .i64 H.hy, .int .i64 H.hz]), .func (.func F) #[] #[]] w (RetOwn w 3 1 (cutsL (collL (l ++ m) H k)).length ((cutsL (collL (l ++ m) H k)).map (Value.int .i64))) := by
  obtain ⟨ua, uc, rfl, _, _, _⟩ := hl.shape
  obtain ⟨ta, tc, rfl, _, _, _⟩ := hm.shape
  have HL := Lib.hid hl
  have HM := Lib.hid hm
  have KLo := Lib.hid hLo
  have KHi := Lib.hid hHi
  have KE := Lib.hid hE
  have hal : (l ++ m).length ≤ 200 := by rw [List.length_append]; omega
  clear hl hm hLo hHi hE
  go_enter Try.func78, Try.ntmps78
  go_wp2_with fail
  go_at_call 20; refine Calls.mono (concat_c l m _ _ _ _ (HL.out.below (by (repeat (first | exact grow_refl _ | refine grow_ext _ ?_ | refine grow_alloc _ ?_ | refine grow_drew ?_)))) (HM.out.below (by (repeat (first | exact grow_refl _ | refine grow_ext _ ?_ | refine grow_alloc _ ?_ | refine grow_drew ?_)))) (by omega) (by omega) (by simp [go_sem]) (by simp [go_sem])) ?_; rintro e w' ⟨v1, rfl, hown1, x1, rfl⟩
  generalize hall : l ++ m = all at *
  have HALL := Lib.hid hall
  have P1 := Lib.hid (Boxes.of_own hown1)
  obtain ⟨a1, cap1, rfl, hc1, hc2, _⟩ := own_shape hown1
  have hc3 : cap1 ≤ 9223372036854775807 := hc2
  clear hown1 hall
  go_wp2_with fail
  refine world_mask (fun W => Below w.heap.size w W ∧ BoxAt W (w.heap.size + 1) 0 H ∧ Boxes W (.slice a1 all.length cap1) all) _ ?_ ?_
  · exact ⟨by (repeat (first | exact grow_refl _ | refine grow_ext _ ?_ | refine grow_alloc _ ?_ | refine grow_drew ?_)), by simp [BoxAt, go_sem], P1.out⟩
  clear P1 HL HM HALL
  rintro W1 ⟨hB, ⟨g0, g1, g2, g3, g4, g5⟩, hP⟩
  simp only [Nat.zero_add] at g1 g2 g3 g4 g5
  have HB2 := Lib.hid hB
  obtain ⟨_, _, he, _, _, hcell⟩ := hP.shape
  cases he
  have HC := Lib.hid hcell
  clear hB hP hcell
  obtain ⟨h1, hh1⟩ : ∃ h1, h1 = H.lo k := ⟨_, rfl⟩
  obtain ⟨h2, hh2⟩ : ∃ h2, h2 = H.hi k := ⟨_, rfl⟩
  have R1 := Lib.hid (fun w => KLo.out H w)
  have R2 := Lib.hid (fun w => KHi.out H w)
  rw [← hh1] at R1
  rw [← hh2] at R2
  have E1 := Lib.hid hh1.symm
  have E2 := Lib.hid hh2.symm
  clear hh1 hh2
  go_loopw [20, 7] (fun i v7 wr => ∃ j : Nat, j ≤ all.length ∧ i = .int .i64 j ∧ (∃ x, wr = ext W1 x) ∧ wr.ownsRow W1.heap.size 3 1 v7 (collL (all.take j) H k).length ((collL (all.take j) H k).map (Value.int .i64))) (fun i _ _ => all.length - (intOf i).toNat)
  case atStart => exact ⟨0, by omega, rfl, ext_refl _, World.ownsRow_nil _ _ _ _⟩
  case round =>
    obtain ⟨j, hj, rfl, ⟨y, rfl⟩, hown⟩ := hrel
    by_cases hlt : j < all.length
    · obtain ⟨b', off, rfl, c0, c1, c2, c3, c4, c5⟩ := HC.out j hlt
      have hcl := collL_length (all.take j) H k
      have htl : (all.take j).length ≤ j := by simp; omega
      have HAT := Lib.hid (collL_take all H k j hlt)
      go_wp2_with fail
      have hob : u7.ownBlock ≠ some (W1.heap.size + y.heap.size + 1) := fun e => by have := (hown.lt _ e).2; rw [size_ext] at this; omega
      clear c0 c1 c2 c3 c4 c5
      go_loopw [30, 7] (fun i v7 wr => ∃ q : Nat, q ≤ 2 ∧ i = .int .i64 q ∧ (∃ x, wr = ext W1 x) ∧ wr.ownsRow W1.heap.size 3 1 v7 (collL (all.take j) H k ++ within2To (H.lo k) (H.hi k) k all[j] q).length ((collL (all.take j) H k ++ within2To (H.lo k) (H.hi k) k all[j] q).map (Value.int .i64)) ∧
        (q = 0 → v7.ownBlock ≠ some (W1.heap.size + y.heap.size + 1) ∧ wr.cell? ⟨W1.heap.size + y.heap.size + 1, 0, none⟩ = some (.int .i64 all[j].lx) ∧ wr.cell? ⟨W1.heap.size + y.heap.size + 1, 1, none⟩ = some (.int .i64 all[j].ly) ∧ wr.cell? ⟨W1.heap.size + y.heap.size + 1, 2, none⟩ = some (.int .i64 all[j].lz)) ∧
        (q ≤ 1 → wr.cell? ⟨W1.heap.size + y.heap.size + 1, 3, none⟩ = some (.int .i64 all[j].hx) ∧ wr.cell? ⟨W1.heap.size + y.heap.size + 1, 4, none⟩ = some (.int .i64 all[j].hy) ∧ wr.cell? ⟨W1.heap.size + y.heap.size + 1, 5, none⟩ = some (.int .i64 all[j].hz))) (fun i _ _ => 2 - (intOf i).toNat)
      case atStart =>
        refine ⟨0, by omega, rfl, ext_of (by (repeat (first | exact grow_refl _ | refine grow_ext _ ?_ | refine grow_alloc _ ?_ | refine grow_drew ?_))), ?_, fun _ => ⟨hob, by simp [go_sem], by simp [go_sem], by simp [go_sem]⟩, fun _ => ⟨by simp [go_sem], by simp [go_sem], by simp [go_sem]⟩⟩
        have := (hown.alloc (.cells #[.int .i64 all[j].lx, .int .i64 all[j].ly, .int .i64 all[j].lz, .int .i64 all[j].hx, .int .i64 all[j].hy, .int .i64 all[j].hz] 28)).alloc (.cells #[.int .i64 all[j].lx, .int .i64 all[j].ly, .int .i64 all[j].lz, .int .i64 all[j].hx, .int .i64 all[j].hy, .int .i64 all[j].hz] 26)
        simpa [within2To] using this
      case round =>
        obtain ⟨q, hq, rfl, ⟨x, rfl⟩, hown2, d0, d3⟩ := hrel
        have hil := within2To_length (H.lo k) (H.hi k) k all[j] q
        clear hob hown
        by_cases hq0 : q = 0
        · subst hq0
          obtain ⟨hob, e0, e1, e2⟩ := d0 rfl
          obtain ⟨e3, e4, e5⟩ := d3 (by omega)
          have HOB := Lib.hid hob
          have D3 := Lib.hid e3
          have D4 := Lib.hid e4
          have D5 := Lib.hid e5
          clear d0 d3 hob e3 e4 e5
          obtain ⟨n, hn⟩ : ∃ n, n = all[j].lo k := ⟨_, rfl⟩
          have KN := Lib.hid (fun w => KLo.out all[j] w)
          rw [← hn] at KN
          have HNE := Lib.hid hn
          clear hn
          by_cases i1 : h1 ≤ n
          · have d1 : decide (h1 ≤ n) = true := by simpa using i1
            by_cases i2 : n ≤ h2
            · have d2 : decide (n ≤ h2) = true := by simpa using i2
              have HI := Lib.hid (show H.lo k ≤ all[j].lo k ∧ all[j].lo k ≤ H.hi k by rw [← HNE.out, E1.out, E2.out]; exact ⟨i1, i2⟩)
              go_wp2_with fail
              rw [show ∀ (a : Array Value) (w : World), (callFunc F a).run Try.prog w = .ok (.enter F a) w from KE.out, Oper.upon_enter]; refine (KN.out _).mono ?_; rintro e w' ⟨rfl, z1, rfl⟩
              go_wp2_with fail
              rw [show ∀ (a : Array Value) (w : World), (callFunc F a).run Try.prog w = .ok (.enter F a) w from KE.out, Oper.upon_enter]; refine (R1.out _).mono ?_; rintro e w' ⟨rfl, z2, rfl⟩
              go_wp2_with fail
              rw [show ∀ (a : Array Value) (w : World), (callFunc F a).run Try.prog w = .ok (.enter F a) w from KE.out, Oper.upon_enter]; refine (R2.out _).mono ?_; rintro e w' ⟨rfl, z3, rfl⟩
              go_wp2_with (at_builtin; refine app_own rfl _ _ 45 rfl 3 (.int .i64 0) 1 8 Try.underlying45 info_int rfl (by decide) W1 _ _ _ _ rfl (own_ext (own_ext (own_ext (hown2.alloc _) z1) z2) z3 |>.alloc _) _ 1 1 [.int .i64 n] rfl rfl (cells_new ?_ _ _ _ rfl) (by simp [Value.oneCell']) ?_ (by decide) ?_ ?_; (simp [size_ext]); (rw [List.length_append]; omega); (repeat (first | exact grow_refl _ | refine grow_ext _ ?_ | refine grow_alloc _ ?_ | refine grow_drew ?_)); intro v' x' hown3 hgrow)
              go_roundw
              case rel => exact ⟨1, by omega, rfl, ⟨_, rfl⟩, by simpa [within2To, HI.out, HNE.out, Nat.add_assoc] using hown3, fun h => by omega, fun _ => ⟨hgrow.cell (by simp [go_sem, D3.out]) (fun e => HOB.out e.symm), hgrow.cell (by simp [go_sem, D4.out]) (fun e => HOB.out e.symm), hgrow.cell (by simp [go_sem, D5.out]) (fun e => HOB.out e.symm)⟩⟩
              case measure => simp [intOf]
            · have d2 : decide (n ≤ h2) = false := by simpa using i2
              have HI := Lib.hid (show ¬ (H.lo k ≤ all[j].lo k ∧ all[j].lo k ≤ H.hi k) by rw [← HNE.out, E1.out, E2.out]; omega)
              go_wp2_with fail
              rw [show ∀ (a : Array Value) (w : World), (callFunc F a).run Try.prog w = .ok (.enter F a) w from KE.out, Oper.upon_enter]; refine (KN.out _).mono ?_; rintro e w' ⟨rfl, z1, rfl⟩
              go_wp2_with fail
              rw [show ∀ (a : Array Value) (w : World), (callFunc F a).run Try.prog w = .ok (.enter F a) w from KE.out, Oper.upon_enter]; refine (R1.out _).mono ?_; rintro e w' ⟨rfl, z2, rfl⟩
              go_wp2_with fail
              rw [show ∀ (a : Array Value) (w : World), (callFunc F a).run Try.prog w = .ok (.enter F a) w from KE.out, Oper.upon_enter]; refine (R2.out _).mono ?_; rintro e w' ⟨rfl, z3, rfl⟩
              go_wp2
              go_roundw
              case rel => exact ⟨1, by omega, rfl, ext_of (by (repeat (first | exact grow_refl _ | refine grow_ext _ ?_ | refine grow_alloc _ ?_ | refine grow_drew ?_))), by simpa [within2To, HI.out] using own_ext (own_ext (own_ext (hown2.alloc _) z1) z2) z3, fun h => by omega, fun _ => ⟨by simp [go_sem, D3.out], by simp [go_sem, D4.out], by simp [go_sem, D5.out]⟩⟩
              case measure => simp [intOf]
          · have d1 : decide (h1 ≤ n) = false := by simpa using i1
            have HI := Lib.hid (show ¬ (H.lo k ≤ all[j].lo k ∧ all[j].lo k ≤ H.hi k) by rw [← HNE.out, E1.out, E2.out]; omega)
            go_wp2_with fail
            rw [show ∀ (a : Array Value) (w : World), (callFunc F a).run Try.prog w = .ok (.enter F a) w from KE.out, Oper.upon_enter]; refine (KN.out _).mono ?_; rintro e w' ⟨rfl, z1, rfl⟩
            go_wp2_with fail
            rw [show ∀ (a : Array Value) (w : World), (callFunc F a).run Try.prog w = .ok (.enter F a) w from KE.out, Oper.upon_enter]; refine (R1.out _).mono ?_; rintro e w' ⟨rfl, z2, rfl⟩
            go_wp2
            go_roundw
            case rel => exact ⟨1, by omega, rfl, ext_of (by (repeat (first | exact grow_refl _ | refine grow_ext _ ?_ | refine grow_alloc _ ?_ | refine grow_drew ?_))), by simpa [within2To, HI.out] using own_ext (own_ext (hown2.alloc _) z1) z2, fun h => by omega, fun _ => ⟨by simp [go_sem, D3.out], by simp [go_sem, D4.out], by simp [go_sem, D5.out]⟩⟩
            case measure => simp [intOf]
        · by_cases hq1 : q = 1
          · subst hq1
            obtain ⟨e3, e4, e5⟩ := d3 (by omega)
            clear d0 d3 hq0
            obtain ⟨n, hn⟩ : ∃ n, n = all[j].hi k := ⟨_, rfl⟩
            have KN := Lib.hid (fun w => KHi.out all[j] w)
            rw [← hn] at KN
            have HNE := Lib.hid hn
            clear hn
            by_cases i1 : h1 ≤ n
            · have d1 : decide (h1 ≤ n) = true := by simpa using i1
              by_cases i2 : n ≤ h2
              · have d2 : decide (n ≤ h2) = true := by simpa using i2
                have HI := Lib.hid (show H.lo k ≤ all[j].hi k ∧ all[j].hi k ≤ H.hi k by rw [← HNE.out, E1.out, E2.out]; exact ⟨i1, i2⟩)
                go_wp2_with fail
                rw [show ∀ (a : Array Value) (w : World), (callFunc F a).run Try.prog w = .ok (.enter F a) w from KE.out, Oper.upon_enter]; refine (KN.out _).mono ?_; rintro e w' ⟨rfl, z1, rfl⟩
                go_wp2_with fail
                rw [show ∀ (a : Array Value) (w : World), (callFunc F a).run Try.prog w = .ok (.enter F a) w from KE.out, Oper.upon_enter]; refine (R1.out _).mono ?_; rintro e w' ⟨rfl, z2, rfl⟩
                go_wp2_with fail
                rw [show ∀ (a : Array Value) (w : World), (callFunc F a).run Try.prog w = .ok (.enter F a) w from KE.out, Oper.upon_enter]; refine (R2.out _).mono ?_; rintro e w' ⟨rfl, z3, rfl⟩
                go_wp2_with (at_builtin; refine app_own rfl _ _ 45 rfl 3 (.int .i64 0) 1 8 Try.underlying45 info_int rfl (by decide) W1 _ _ _ _ rfl (own_ext (own_ext (own_ext (hown2.alloc _) z1) z2) z3 |>.alloc _) _ 1 1 [.int .i64 n] rfl rfl (cells_new ?_ _ _ _ rfl) (by simp [Value.oneCell']) ?_ (by decide) ?_ ?_; (simp [size_ext]); (rw [List.length_append]; omega); (repeat (first | exact grow_refl _ | refine grow_ext _ ?_ | refine grow_alloc _ ?_ | refine grow_drew ?_)); intro v' x' hown3 hgrow)
                go_roundw
                case rel => exact ⟨2, by omega, rfl, ⟨_, rfl⟩, by simpa [within2To, within2, HI.out, HNE.out, Nat.add_assoc] using hown3, fun h => by omega, fun h => by omega⟩
                case measure => simp [intOf]
              · have d2 : decide (n ≤ h2) = false := by simpa using i2
                have HI := Lib.hid (show ¬ (H.lo k ≤ all[j].hi k ∧ all[j].hi k ≤ H.hi k) by rw [← HNE.out, E1.out, E2.out]; omega)
                go_wp2_with fail
                rw [show ∀ (a : Array Value) (w : World), (callFunc F a).run Try.prog w = .ok (.enter F a) w from KE.out, Oper.upon_enter]; refine (KN.out _).mono ?_; rintro e w' ⟨rfl, z1, rfl⟩
                go_wp2_with fail
                rw [show ∀ (a : Array Value) (w : World), (callFunc F a).run Try.prog w = .ok (.enter F a) w from KE.out, Oper.upon_enter]; refine (R1.out _).mono ?_; rintro e w' ⟨rfl, z2, rfl⟩
                go_wp2_with fail
                rw [show ∀ (a : Array Value) (w : World), (callFunc F a).run Try.prog w = .ok (.enter F a) w from KE.out, Oper.upon_enter]; refine (R2.out _).mono ?_; rintro e w' ⟨rfl, z3, rfl⟩
                go_wp2
                go_roundw
                case rel => exact ⟨2, by omega, rfl, ext_of (by (repeat (first | exact grow_refl _ | refine grow_ext _ ?_ | refine grow_alloc _ ?_ | refine grow_drew ?_))), by simpa [within2To, within2, HI.out] using own_ext (own_ext (own_ext (hown2.alloc _) z1) z2) z3, fun h => by omega, fun h => by omega⟩
                case measure => simp [intOf]
            · have d1 : decide (h1 ≤ n) = false := by simpa using i1
              have HI := Lib.hid (show ¬ (H.lo k ≤ all[j].hi k ∧ all[j].hi k ≤ H.hi k) by rw [← HNE.out, E1.out, E2.out]; omega)
              go_wp2_with fail
              rw [show ∀ (a : Array Value) (w : World), (callFunc F a).run Try.prog w = .ok (.enter F a) w from KE.out, Oper.upon_enter]; refine (KN.out _).mono ?_; rintro e w' ⟨rfl, z1, rfl⟩
              go_wp2_with fail
              rw [show ∀ (a : Array Value) (w : World), (callFunc F a).run Try.prog w = .ok (.enter F a) w from KE.out, Oper.upon_enter]; refine (R1.out _).mono ?_; rintro e w' ⟨rfl, z2, rfl⟩
              go_wp2
              go_roundw
              case rel => exact ⟨2, by omega, rfl, ext_of (by (repeat (first | exact grow_refl _ | refine grow_ext _ ?_ | refine grow_alloc _ ?_ | refine grow_drew ?_))), by simpa [within2To, within2, HI.out] using own_ext (own_ext (hown2.alloc _) z1) z2, fun h => by omega, fun h => by omega⟩
              case measure => simp [intOf]
          · obtain rfl : q = 2 := by omega
            clear d0 d3 hq0 hq1
            go_wp2
            go_roundw
            case rel => exact ⟨j + 1, by omega, by go_num, ⟨_, rfl⟩, by rw [HAT.out]; simpa [within2To] using hown2⟩
            case measure => simp [intOf]; omega
    · obtain rfl : j = all.length := by omega
      rw [List.take_length] at hown
      have hcl := collL_length all H k
      have hml := length_sorted (collL all H k)
      have HML := Lib.hid hml
      have hml2 : (sorted (collL all H k)).length ≤ 400 := by omega
      clear hml hlt
      go_wp2_with fail
      go_at_call 21
      refine (sort_own u7 (collL all H k) _ hown (by omega)).mono ?_
      rintro e w' ⟨rfl, hown2, hg2⟩
      obtain ⟨y2, rfl⟩ := ext_grown hg2 (own_row hown)
      clear hown hg2
      go_wp2_with fail
      go_at_call 22
      refine (compact_own u7 (sorted (collL all H k)) _ hown2 (by omega)).mono ?_
      rintro e w' ⟨v2, rfl, hown3, hg3, _⟩
      obtain ⟨y3, rfl⟩ := ext_grown hg3 (own_row hown2)
      have HO := Lib.hid hown3
      clear hown2 hg3 hown3
      go_wp2
      go_ret
      exact ⟨_, rfl, own_mono HO.out HB2.out.size, ext_of (by (repeat (first | exact grow_refl _ | exact HB2.out | refine grow_ext _ ?_ | refine grow_alloc _ ?_ | refine grow_drew ?_)))⟩
end Go.Proofs.Ytafkibnkpcmmgaa

namespace Go.Proofs.Ytafkibnkpcmmgaa
open Go.RowKit
set_option maxRecDepth 20000

set_option maxHeartbeats 1000000 in
theorem each5_c (h b : Bx) (g : Nat) (w : World) (hb : BoxAt w g 0 b) : Calls Try.prog 83 #[(.agg #[.int .i64 h.lx, .int .i64 h.ly, .int .i64 h.lz, .int .i64 h.hx, .int .i64 h.hy, .int .i64 h.hz]), .pointer (some ⟨g, 0, none⟩)] w (Ret w (.bool (opensB h b))) := by
  obtain ⟨c0, c1, c2, c3, c4, c5⟩ := hb
  simp only [Nat.zero_add] at c1 c2 c3 c4 c5
  go_enter Try.func83, Try.ntmps83
  go_wp2_with fail
  go_at_call 47; refine (opens_c h b _).mono ?_; rintro e w' ⟨rfl, x1, rfl⟩
  go_wp2
  go_ret
  exact Ret.of (by (repeat (first | exact grow_refl _ | refine grow_ext _ ?_ | refine grow_alloc _ ?_ | refine grow_drew ?_)))
theorem enters_each5 : Enters 83 := enters_of Try.func83 (by decide) (by simp [Try.f83])

set_option maxHeartbeats 1000000 in
theorem each4_c (a b : Bx) (g : Nat) (ha : validB a = true) (hv : validB b = true) (w : World) (hb : BoxAt w g 0 b) : Calls Try.prog 82 #[(.agg #[.int .i64 a.lx, .int .i64 a.ly, .int .i64 a.lz, .int .i64 a.hx, .int .i64 a.hy, .int .i64 a.hz]), .pointer (some ⟨g, 0, none⟩)] w (Ret w (.bool (containsB a b))) := by
  obtain ⟨c0, c1, c2, c3, c4, c5⟩ := hb
  simp only [Nat.zero_add] at c1 c2 c3 c4 c5
  go_enter Try.func82, Try.ntmps82
  go_wp2_with fail
  go_at_call 42; refine (Contains_ok a b ha hv _).mono ?_; rintro e w' ⟨rfl, x1, rfl⟩
  go_wp2
  go_ret
  exact Ret.of (by (repeat (first | exact grow_refl _ | refine grow_ext _ ?_ | refine grow_alloc _ ?_ | refine grow_drew ?_)))
theorem enters_each4 : Enters 82 := enters_of Try.func82 (by decide) (by simp [Try.f82])

theorem own_below2 {w w' : World} {base : Nat} {e : TypeId} {s : Nat} {v : Value} {n : Nat} {xs : List Value} (h : w.ownsRow base e s v n xs) (hb : Below w.heap.size w w') : w'.ownsRow base e s v n xs := by
  obtain ⟨y, rfl⟩ := ext_of hb; exact own_ext h y

/-- What the walk of each keeps at hand. -/
structure EachAt (W : World) (B g n₀ M : Nat) (u t vx vy vz : Value) (l m : List Bx) (X Y Z : List Int) : Prop where
  b0 : n₀ ≤ W.heap.size
  mb : B < M
  mx : ∀ b, vx.ownBlock = some b → b < M
  my : ∀ b, vy.ownBlock = some b → b < M
  mz : ∀ b, vz.ownBlock = some b → b < M
  boxes : Boxes W u l
  holes : Boxes W t m
  su : W.cell? ⟨B, 0, none⟩ = some u
  st : W.cell? ⟨B, 1, none⟩ = some t
  ox : W.ownsRow B 3 1 vx X.length (X.map (Value.int .i64))
  oy : W.ownsRow B 3 1 vy Y.length (Y.map (Value.int .i64))
  oz : W.ownsRow B 3 1 vz Z.length (Z.map (Value.int .i64))
theorem EachAt.grown {W W' : World} {B g n₀ M : Nat} {u t vx vy vz : Value} {l m : List Bx} {X Y Z : List Int} (h : EachAt W B g n₀ M u t vx vy vz l m X Y Z) (hb : Below W.heap.size W W') : EachAt W' B g n₀ M u t vx vy vz l m X Y Z := by
  obtain ⟨y, rfl⟩ := ext_of hb
  exact ⟨Nat.le_trans h.b0 hb.size, h.mb, h.mx, h.my, h.mz, h.boxes.below hb, h.holes.below hb, cell_ext_some h.su y, cell_ext_some h.st y, own_ext h.ox y, own_ext h.oy y, own_ext h.oz y⟩
theorem EachAt.kept {W W' : World} {B g n₀ M : Nat} {u t vx vy vz : Value} {l m : List Bx} {X Y Z : List Int} (hg : g < B) (hl : Boxes W' u l) (hm : Boxes W' t m) (h : EachAt W B g n₀ M u t vx vy vz l m X Y Z) (hk : Keeps n₀ g M W W') : EachAt W' B g n₀ M u t vx vy vz l m X Y Z :=
  ⟨Nat.le_trans h.b0 hk.size, h.mb, h.mx, h.my, h.mz, hl, hm, hk.cell h.su h.mb (by simp; omega), hk.cell h.st h.mb (by simp; omega), hk.own h.ox h.mx (fun e => by have := (h.ox.lt _ e).1; omega), hk.own h.oy h.my (fun e => by have := (h.oy.lt _ e).1; omega), hk.own h.oz h.mz (fun e => by have := (h.oz.lt _ e).1; omega)⟩

end Go.Proofs.Ytafkibnkpcmmgaa


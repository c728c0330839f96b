/- TtT, TtU in one text. -/
import Derived.Test.YtkjljneehgmmaaaGreatAcK3
import Derived.Test.YtkjljneehgmmaaaGreatAcK4
import Derived.Test.YtkjljneehgmmaaaGreatAaK7
namespace Go.Proofs.YtkjljneehgmmaaaGreat
set_option linter.unusedVariables false
set_option linter.unusedSimpArgs false
open Go Go.RowKit
set_option maxRecDepth 20000

theorem beam_laid (du : Value) : laidB [beamB du] [beamR] = true := by kernel_rfl
theorem beam_member (u : Value) : mbB (beamM u) = true := by kernel_rfl
theorem beam_dmV (su : Value) : DmV (beamF su) := by
 refine ⟨by kernel_rfl, by kernel_rfl, ⟨by show (2 : Nat) ≤ 200; decide, fun i hi => ?_, fun i hi => ?_⟩⟩
 ·have hi' : i < 2 := hi
  match i, hi' with
  | 0, _ => exact (by decide : ((-1048576 : Int) ≤ 580 ∧ (580 : Int) ≤ 1048576) ∧ (0 : Int) ≤ 11310 ∧ (11310 : Int) ≤ 1099511627776)
  | 1, _ => exact (by decide : ((-1048576 : Int) ≤ 1620 ∧ (1620 : Int) ≤ 1048576) ∧ (0 : Int) ≤ 0 ∧ (0 : Int) ≤ 1099511627776)
 ·have hi' : i + 1 < 2 := hi
  obtain rfl : i = 0 := by omega
  exact (by decide : (580 : Int) < 1620)
theorem beam_v (u du bv rv su dv : Value) : DtV (beamD u du bv rv su dv) := by
 refine ⟨beam_member u, beam_laid du, fun f hf => ?_, by show (1 : Nat) ≤ 20; decide, fun i j hi hj hij => ?_, ?_, ⟨by show (0 : Nat) ≤ _; decide, fun j hj => (by cases hj), List.nodup_nil, List.nodup_nil⟩⟩
 ·have : f = beamF su := by simpa [beamD] using hf
  rw [this]
  exact beam_dmV su
 ·have h1 : i < 1 := hi
  have h2 : j < 1 := hj
  omega
 ·show ruOk ⟨40, 1, 10, 7, 7, 10, 3, 2, 100⟩
  unfold ruOk
  decide
theorem beam_value (u du bv rv su dv : Value) : valueI (supI (beamD u du bv rv su dv) (beamF su)) 580 = 11310 := by kernel_rfl
theorem beam_sup (u du bv rv su dv : Value) : supI (beamD u du bv rv su dv) (beamF su) = [⟨[0], 580, 1620, true, 11310⟩] := by kernel_rfl
theorem beam_fail (u du bv rv su dv : Value) : failD (beamD u du bv rv su dv) (beamF su) = none := by
 unfold failD firstF supD
 rw [beam_sup, List.find?_eq_none]
 intro p _
 unfold failB
 rw [supS_at (l := [⟨[0], 580, 1620, true, 11310⟩]) (fun c hc => by cases hc with | head => decide | tail _ h => cases h)]
 show ¬ decide ((if (580 : Int) ≤ p ∧ p < 1620 then (0 : Int) + 11310 else 0) < (if (1620 : Int) ≤ p then 0 else if (580 : Int) ≤ p then 11310 else 0)) = true
 rw [decide_eq_true_iff]
 split <;> split <;> (try split) <;> omega
theorem beam_legs (du : Value) : (legsN (beamB du)).length = 1 := by kernel_rfl
theorem beam_shape (du : Value) : shapeB (beamB du) = true := by kernel_rfl
theorem beam_cover0 (u : Value) : (0 : Int) ≤ coverC (beamM u).l (beamM u).m (coreX 12 ⟨100, 50, 50, 2100, 50, 50⟩) :=
 topC_ge (c := 0) (by decide) (show containsS [beamX] [] (grownX (coreX 12 ⟨100, 50, 50, 2100, 50, 50⟩) (0 : Nat)) = true by rw [contains_one beamX (by unfold Ordd; decide)]; decide)
theorem beam_bar0 (u v : Value) : ¬ barI (beamM u) [beamB v] [beamR] (0 : Nat) < 0 := by
 have h := beam_cover0 u
 have e : barI (beamM u) [beamB v] [beamR] (0 : Nat) = coverL (beamM u) 12 [⟨100, 50, 50, 2100, 50, 50⟩] := by
  unfold barI
  rw [show sizeI [beamB v] [beamR] (0 : Nat) = 12 by kernel_rfl, show legsI [beamB v] [beamR] (0 : Nat) = [⟨100, 50, 50, 2100, 50, 50⟩] by kernel_rfl]
 rw [e]
 unfold coverL
 rw [List.foldl_cons, List.foldl_nil]
 omega
theorem beam_findings (u v : Value) : coverTo (beamM u) [beamB v] [beamR] 1 = [] := by
 rw [show (1 : Nat) = 0 + 1 from rfl, coverTo_succ, if_neg (show ¬ barI (beamM u) [beamB v] [beamR] (0 : Nat) < (beamM u).cover from beam_bar0 u v), List.append_nil]
 rfl
theorem beam_chk (u du bv rv su dv : Value) : chkI (beamD u du bv rv su dv) (beamD u du bv rv su dv).dm = [] := by
 show chkI (beamD u du bv rv su dv) [beamF su] = []
 unfold chkI
 rw [List.filter_cons, beam_fail]
 rfl
theorem beam_det (u du bv rv su dv : Value) : Det1 (beamD u du bv rv su dv) (beamB du) beamR :=
 ⟨beam_v u du bv rv su dv, rfl, rfl, beam_shape du, rfl, beam_legs du, rfl, rfl, rfl, rfl, beam_findings u du, beam_chk u du bv rv su dv⟩

theorem beam_pass (u du bv rv su dv : Value) (w : World) (h : DtAt w (beamD u du bv rv su dv)) : Calls Tryz.prog 13 #[.agg (dtC (beamD u du bv rv su dv))] w (Ret w (.tuple #[.bool true, .int .i64 0])) := by
 have h1 := Passes_c _ (beam_v u du bv rv su dv) (by show countS [beamR] ≤ 16; decide) w h
 rw [beam_chk] at h1
 exact h1
theorem beam_supAt (u du bv rv su dv : Value) (w : World) (h : DtAt w (beamD u du bv rv su dv)) : Calls Tryz.prog 7 #[.agg (dtC (beamD u du bv rv su dv)), .int .i64 0, .int .i64 580] w (Ret w (.tuple #[.int .i64 11310, .int .i64 0])) := by
 have h1 := supAt_c _ (beam_v u du bv rv su dv) 0 (by show (0 : Nat) < 1; decide) 580 (by decide) w h
 rw [show (beamD u du bv rv su dv).dm[0]'(by show (0 : Nat) < 1; decide) = beamF su from rfl, beam_value] at h1
 exact h1
theorem beam_passes (u du bv rv su dv : Value) (w : World) (h : DtAt w (beamD u du bv rv su dv)) : Calls Tryz.prog 18 #[.agg (dtC (beamD u du bv rv su dv))] w (Ret w (.tuple #[.bool true, .int .i64 0])) :=
 detPasses1_c _ _ _ (beam_det u du bv rv su dv) w h
structure BeamV (W : World) (v : Value) : Prop where
 pass : Calls Tryz.prog 13 #[v] W (Ret W (.tuple #[.bool true, .int .i64 0]))
 at0 : Calls Tryz.prog 7 #[v, .int .i64 0, .int .i64 580] W (Ret W (.tuple #[.int .i64 11310, .int .i64 0]))
 det : Calls Tryz.prog 18 #[v] W (Ret W (.tuple #[.bool true, .int .i64 0]))
theorem beamV_c (w : World) : Calls Tryz.prog 17 #[] w (fun e W => ∃ v x, e = .returned v ∧ W = ext w x ∧ BeamV (ext w x) v) := by
 refine (beam_c w).mono ?_
 rintro e W ⟨g0, g1, g2, g3, g4, g5, rfl, hat, x, rfl⟩
 exact ⟨_, x, rfl, rfl, beam_pass _ _ _ _ _ _ _ hat, beam_supAt _ _ _ _ _ _ _ hat, beam_passes _ _ _ _ _ _ _ hat⟩
set_option maxRecDepth 100000 in
set_option maxHeartbeats 8000000 in
theorem reinAwake_c (w : World) : Calls Tryz.prog 4 #[] w (Ret w (.bool true)) := by
 have HB := hd0 (fun w => beamV_c w)
 go_enter Tryz.func4, Tryz.ntmps4
 go_upto_region 1 with fail
 go_upto_region 2 with (first | (go_at_call 17; refine (HB.out _).mono ?_; rintro e W ⟨v1, x1, rfl, rfl, hv1⟩; have HV1 := hd0 hv1; clear hv1) | (go_at_call 13; refine (HV1.out.pass).mono ?_; rintro e w' ⟨rfl, y1, rfl⟩))
 clear HV1
 go_upto_region 3 with (first | (go_at_call 17; refine (HB.out _).mono ?_; rintro e W ⟨v2, x2, rfl, rfl, hv2⟩; have HV2 := hd0 hv2; clear hv2) | (go_at_call 7; refine (HV2.out.at0).mono ?_; rintro e w' ⟨rfl, y2, rfl⟩))
 clear HV2
 go_upto_region 4 with (first | (go_at_call 17; refine (HB.out _).mono ?_; rintro e W ⟨v3, x3, rfl, rfl, hv3⟩; have HV3 := hd0 hv3; clear hv3) | (go_at_call 18; refine (HV3.out.det).mono ?_; rintro e w' ⟨rfl, y3, rfl⟩))
 clear HV3
 go_wp2
 go_ret
 exact Ret.of gro
end Go.Proofs.YtkjljneehgmmaaaGreat


/- PokerHigher: the walk of the law. -/
import Derived.Test.YtmoechhfjmemaaaGreatPokK4
import Derived.Test.YtmoechhfjmemaaaGreatPokK3
import Derived.Deep.DeepCutAuto
import Derived.Deep.CutBlock
namespace Go.Proofs.YtmoechhfjmemaaaGreat
open Go.RowKit
set_option maxRecDepth 20000

theorem freeE_cases (q : Mb) (l : List Br) (rs : List Rn) (p : Pt) : (∃ e, freeE q l rs p = (false, e) ∧ (e != 0) = true) ∨ ((okMb q = true ∧ laidB l rs = true ∧ nearB p 1048576 = true ∧ p.z ≤ topI q) ∧ freeE q l rs p = (freeR q (rodsI l rs) p, 0)) := by
  unfold freeE
  by_cases h : okMb q = true ∧ laidB l rs = true
  · rw [if_pos h]
    by_cases ht : tipB q p = true
    · right
      rw [if_pos ht]
      unfold tipB at ht
      simp only [Bool.and_eq_true, decide_eq_true_eq] at ht
      exact ⟨⟨h.1, h.2, ht.1, ht.2⟩, rfl⟩
    · left; rw [if_neg ht]; exact ⟨2, rfl, rfl⟩
  · left; rw [if_neg h]; exact ⟨1, rfl, rfl⟩
theorem free_ok {q : Mb} {l : List Br} {rs : List Rn} {p : Pt} (h1 : okMb q = true) (h2 : laidB l rs = true) (h3 : nearB p 1048576 = true) (h4 : p.z ≤ topI q) : freeE q l rs p = (freeR q (rodsI l rs) p, 0) := by
  unfold freeE
  rw [if_pos ⟨h1, h2⟩, if_pos (by unfold tipB; rw [h3, decide_eq_true h4]; rfl)]
theorem nils (w : World) : Bars w (.slice none 0 0) [] ∧ Runs w (.slice none 0 0) [] := ⟨⟨none, 0, rfl, Nat.le_refl _, by decide, fun i h => absurd h (Nat.not_lt_zero _)⟩, ⟨none, 0, rfl, Nat.le_refl _, by decide, fun i h => absurd h (Nat.not_lt_zero _)⟩⟩

set_option maxRecDepth 100000 in
set_option maxHeartbeats 4000000 in
theorem lawPH_err (q : Mb) (l : List Br) (rs : List Rn) (v u : Value) (p : Pt) (up k : Int) (e : Int) (h : freeE q l rs p = (false, e)) (he : (e != 0) = true) (w : World) (hq : MbAt w q) (hl : Bars w v l) (hr : Runs w u rs) :
    Calls Tryz.prog 5 #[(.agg #[.string q.name, q.u, q.t, .int .i64 q.cover, .int .i64 q.agg, .int .i64 q.poker]), v, u, (.agg #[.int .i64 p.x, .int .i64 p.y, .int .i64 p.z]), .int .u16 up, .int .u8 k] w (Ret w (.bool true)) := by
  have HQ := Lib.hid hq
  have HL := Lib.hid hl
  have HR := Lib.hid hr
  have HF := Lib.hid (fun w hq hl hr => pFree_v q l rs p v u false e h w hq hl hr)
  obtain ⟨B, E, hc⟩ : ∃ B E, columnE q p = (B, E) := ⟨_, _, rfl⟩
  have HC := Lib.hid (fun w hq => pColumn_v q p B E hc w hq)
  clear hq hl hr h hc
  go_enter Tryz.func5, Tryz.ntmps5
  go_wp2_with fail
  go_at_call 11; refine (awake22_c _).mono ?_; rintro e w' ⟨rfl, x0, rfl⟩
  go_wp2_with fail
  go_at_call 12; refine (few22_c q l rs v u _ (HQ.out.below (by (repeat (first | exact grow_refl _ | refine grow_ext _ ?_ | refine grow_alloc _ ?_ | refine grow_drew ?_)))) (HL.out.below (by (repeat (first | exact grow_refl _ | refine grow_ext _ ?_ | refine grow_alloc _ ?_ | refine grow_drew ?_)))) (HR.out.below (by (repeat (first | exact grow_refl _ | refine grow_ext _ ?_ | refine grow_alloc _ ?_ | refine grow_drew ?_))))).mono ?_; rintro e w' ⟨q0, rfl, x1, rfl⟩
  cases q0
  · go_wp2
    go_ret
    exact Ret.of (by (repeat (first | exact grow_refl _ | refine grow_ext _ ?_ | refine grow_alloc _ ?_ | refine grow_drew ?_)))
  go_wp2_with fail
  go_at_call 14; refine (HF.out _ (HQ.out.below (by (repeat (first | exact grow_refl _ | refine grow_ext _ ?_ | refine grow_alloc _ ?_ | refine grow_drew ?_)))) (HL.out.below (by (repeat (first | exact grow_refl _ | refine grow_ext _ ?_ | refine grow_alloc _ ?_ | refine grow_drew ?_)))) (HR.out.below (by (repeat (first | exact grow_refl _ | refine grow_ext _ ?_ | refine grow_alloc _ ?_ | refine grow_drew ?_))))).mono ?_; rintro e w' ⟨rfl, x2, rfl⟩
  go_wp2_with fail
  go_at_call 13; refine (HC.out _ (HQ.out.below (by (repeat (first | exact grow_refl _ | refine grow_ext _ ?_ | refine grow_alloc _ ?_ | refine grow_drew ?_))))).mono ?_; rintro e w' ⟨rfl, x3, rfl⟩
  go_wp2
  go_ret
  exact Ret.of (by (repeat (first | exact grow_refl _ | refine grow_ext _ ?_ | refine grow_alloc _ ?_ | refine grow_drew ?_)))

set_option maxRecDepth 100000 in
set_option maxHeartbeats 4000000 in
theorem lawPH_n1 (q : Mb) (l : List Br) (rs : List Rn) (v u : Value) (p : Pt) (C : Bx) (up k : Int)
    (hF : ∀ w, MbAt w q → Bars w v l → Runs w u rs → Calls Tryz.prog 14 #[(.agg #[.string q.name, q.u, q.t, .int .i64 q.cover, .int .i64 q.agg, .int .i64 q.poker]), v, u, (.agg #[.int .i64 p.x, .int .i64 p.y, .int .i64 p.z])] w (Ret w (.tuple #[.bool false, .int .i64 0])))
    (hC : ∀ w, MbAt w q → Calls Tryz.prog 13 #[(.agg #[.string q.name, q.u, q.t, .int .i64 q.cover, .int .i64 q.agg, .int .i64 q.poker]), (.agg #[.int .i64 p.x, .int .i64 p.y, .int .i64 p.z])] w (Ret w (.tuple #[(.agg #[.int .i64 C.lx, .int .i64 C.ly, .int .i64 C.lz, .int .i64 C.hx, .int .i64 C.hy, .int .i64 C.hz]), .int .i64 0])))
    (hS : ∀ w, Boxes w q.u q.l → Boxes w q.t q.m → Calls Tryz.prog 26 #[.agg #[q.u, q.t], (.agg #[.int .i64 C.lx, .int .i64 C.ly, .int .i64 C.lz, .int .i64 C.hx, .int .i64 C.hy, .int .i64 C.hz])] w (Ret w (.tuple #[.bool false, .int .i64 1])))
    (hA : ∀ w, MbAt w q → Calls Tryz.prog 14 #[(.agg #[.string q.name, q.u, q.t, .int .i64 q.cover, .int .i64 q.agg, .int .i64 q.poker]), .slice none 0 0, .slice none 0 0, (.agg #[.int .i64 p.x, .int .i64 p.y, .int .i64 p.z])] w (Ret w (.tuple #[.bool false, .int .i64 0])))
    (w : World) (hq : MbAt w q) (hl : Bars w v l) (hr : Runs w u rs) :
    Calls Tryz.prog 5 #[(.agg #[.string q.name, q.u, q.t, .int .i64 q.cover, .int .i64 q.agg, .int .i64 q.poker]), v, u, (.agg #[.int .i64 p.x, .int .i64 p.y, .int .i64 p.z]), .int .u16 up, .int .u8 k] w (Ret w (.bool true)) := by
  have HQ := Lib.hid hq
  have HL := Lib.hid hl
  have HR := Lib.hid hr
  have HF := Lib.hid hF
  have HC := Lib.hid hC
  have HS := Lib.hid hS
  have HA := Lib.hid hA
  clear hq hl hr hF hC hS hA
  go_enter Tryz.func5, Tryz.ntmps5
  go_wp2_with fail
  go_at_call 11; refine (awake22_c _).mono ?_; rintro e w' ⟨rfl, x0, rfl⟩
  go_wp2_with fail
  go_at_call 12; refine (few22_c q l rs v u _ (HQ.out.below (by (repeat (first | exact grow_refl _ | refine grow_ext _ ?_ | refine grow_alloc _ ?_ | refine grow_drew ?_)))) (HL.out.below (by (repeat (first | exact grow_refl _ | refine grow_ext _ ?_ | refine grow_alloc _ ?_ | refine grow_drew ?_)))) (HR.out.below (by (repeat (first | exact grow_refl _ | refine grow_ext _ ?_ | refine grow_alloc _ ?_ | refine grow_drew ?_))))).mono ?_; rintro e w' ⟨q0, rfl, x1, rfl⟩
  cases q0
  · go_wp2
    go_ret
    exact Ret.of (by (repeat (first | exact grow_refl _ | refine grow_ext _ ?_ | refine grow_alloc _ ?_ | refine grow_drew ?_)))
  go_wp2_with fail
  go_at_call 14; refine (HF.out _ (HQ.out.below (by (repeat (first | exact grow_refl _ | refine grow_ext _ ?_ | refine grow_alloc _ ?_ | refine grow_drew ?_)))) (HL.out.below (by (repeat (first | exact grow_refl _ | refine grow_ext _ ?_ | refine grow_alloc _ ?_ | refine grow_drew ?_)))) (HR.out.below (by (repeat (first | exact grow_refl _ | refine grow_ext _ ?_ | refine grow_alloc _ ?_ | refine grow_drew ?_))))).mono ?_; rintro e w' ⟨rfl, x2, rfl⟩
  go_wp2_with fail
  go_at_call 13; refine (HC.out _ (HQ.out.below (by (repeat (first | exact grow_refl _ | refine grow_ext _ ?_ | refine grow_alloc _ ?_ | refine grow_drew ?_))))).mono ?_; rintro e w' ⟨rfl, x3, rfl⟩
  go_wp2_with fail
  go_at_call 26; refine (HS.out _ (HQ.out.boxes.below (by (repeat (first | exact grow_refl _ | refine grow_ext _ ?_ | refine grow_alloc _ ?_ | refine grow_drew ?_)))) (HQ.out.holes.below (by (repeat (first | exact grow_refl _ | refine grow_ext _ ?_ | refine grow_alloc _ ?_ | refine grow_drew ?_))))).mono ?_; rintro e w' ⟨rfl, x4, rfl⟩
  go_wp2_with fail
  go_at_call 14; refine (HA.out _ (HQ.out.below (by (repeat (first | exact grow_refl _ | refine grow_ext _ ?_ | refine grow_alloc _ ?_ | refine grow_drew ?_))))).mono ?_; rintro e w' ⟨rfl, x5, rfl⟩
  go_wp2
  go_ret
  exact Ret.of (by (repeat (first | exact grow_refl _ | refine grow_ext _ ?_ | refine grow_alloc _ ?_ | refine grow_drew ?_)))

set_option maxRecDepth 100000 in
set_option maxHeartbeats 4000000 in
theorem lawPH_n2 (q : Mb) (l : List Br) (rs : List Rn) (v u : Value) (p : Pt) (C : Bx) (up k : Int)
    (hF : ∀ w, MbAt w q → Bars w v l → Runs w u rs → Calls Tryz.prog 14 #[(.agg #[.string q.name, q.u, q.t, .int .i64 q.cover, .int .i64 q.agg, .int .i64 q.poker]), v, u, (.agg #[.int .i64 p.x, .int .i64 p.y, .int .i64 p.z])] w (Ret w (.tuple #[.bool false, .int .i64 0])))
    (hC : ∀ w, MbAt w q → Calls Tryz.prog 13 #[(.agg #[.string q.name, q.u, q.t, .int .i64 q.cover, .int .i64 q.agg, .int .i64 q.poker]), (.agg #[.int .i64 p.x, .int .i64 p.y, .int .i64 p.z])] w (Ret w (.tuple #[(.agg #[.int .i64 C.lx, .int .i64 C.ly, .int .i64 C.lz, .int .i64 C.hx, .int .i64 C.hy, .int .i64 C.hz]), .int .i64 0])))
    (hS : ∀ w, Boxes w q.u q.l → Boxes w q.t q.m → Calls Tryz.prog 26 #[.agg #[q.u, q.t], (.agg #[.int .i64 C.lx, .int .i64 C.ly, .int .i64 C.lz, .int .i64 C.hx, .int .i64 C.hy, .int .i64 C.hz])] w (Ret w (.tuple #[.bool false, .int .i64 0])))
    (hA : ∀ w, MbAt w q → Calls Tryz.prog 14 #[(.agg #[.string q.name, q.u, q.t, .int .i64 q.cover, .int .i64 q.agg, .int .i64 q.poker]), .slice none 0 0, .slice none 0 0, (.agg #[.int .i64 p.x, .int .i64 p.y, .int .i64 p.z])] w (Ret w (.tuple #[.bool false, .int .i64 0])))
    (w : World) (hq : MbAt w q) (hl : Bars w v l) (hr : Runs w u rs) :
    Calls Tryz.prog 5 #[(.agg #[.string q.name, q.u, q.t, .int .i64 q.cover, .int .i64 q.agg, .int .i64 q.poker]), v, u, (.agg #[.int .i64 p.x, .int .i64 p.y, .int .i64 p.z]), .int .u16 up, .int .u8 k] w (Ret w (.bool true)) := by
  have HQ := Lib.hid hq
  have HL := Lib.hid hl
  have HR := Lib.hid hr
  have HF := Lib.hid hF
  have HC := Lib.hid hC
  have HS := Lib.hid hS
  have HA := Lib.hid hA
  clear hq hl hr hF hC hS hA
  go_enter Tryz.func5, Tryz.ntmps5
  go_wp2_with fail
  go_at_call 11; refine (awake22_c _).mono ?_; rintro e w' ⟨rfl, x0, rfl⟩
  go_wp2_with fail
  go_at_call 12; refine (few22_c q l rs v u _ (HQ.out.below (by (repeat (first | exact grow_refl _ | refine grow_ext _ ?_ | refine grow_alloc _ ?_ | refine grow_drew ?_)))) (HL.out.below (by (repeat (first | exact grow_refl _ | refine grow_ext _ ?_ | refine grow_alloc _ ?_ | refine grow_drew ?_)))) (HR.out.below (by (repeat (first | exact grow_refl _ | refine grow_ext _ ?_ | refine grow_alloc _ ?_ | refine grow_drew ?_))))).mono ?_; rintro e w' ⟨q0, rfl, x1, rfl⟩
  cases q0
  · go_wp2
    go_ret
    exact Ret.of (by (repeat (first | exact grow_refl _ | refine grow_ext _ ?_ | refine grow_alloc _ ?_ | refine grow_drew ?_)))
  go_wp2_with fail
  go_at_call 14; refine (HF.out _ (HQ.out.below (by (repeat (first | exact grow_refl _ | refine grow_ext _ ?_ | refine grow_alloc _ ?_ | refine grow_drew ?_)))) (HL.out.below (by (repeat (first | exact grow_refl _ | refine grow_ext _ ?_ | refine grow_alloc _ ?_ | refine grow_drew ?_)))) (HR.out.below (by (repeat (first | exact grow_refl _ | refine grow_ext _ ?_ | refine grow_alloc _ ?_ | refine grow_drew ?_))))).mono ?_; rintro e w' ⟨rfl, x2, rfl⟩
  go_wp2_with fail
  go_at_call 13; refine (HC.out _ (HQ.out.below (by (repeat (first | exact grow_refl _ | refine grow_ext _ ?_ | refine grow_alloc _ ?_ | refine grow_drew ?_))))).mono ?_; rintro e w' ⟨rfl, x3, rfl⟩
  go_wp2_with fail
  go_at_call 26; refine (HS.out _ (HQ.out.boxes.below (by (repeat (first | exact grow_refl _ | refine grow_ext _ ?_ | refine grow_alloc _ ?_ | refine grow_drew ?_)))) (HQ.out.holes.below (by (repeat (first | exact grow_refl _ | refine grow_ext _ ?_ | refine grow_alloc _ ?_ | refine grow_drew ?_))))).mono ?_; rintro e w' ⟨rfl, x4, rfl⟩
  go_wp2_with fail
  go_at_call 14; refine (HA.out _ (HQ.out.below (by (repeat (first | exact grow_refl _ | refine grow_ext _ ?_ | refine grow_alloc _ ?_ | refine grow_drew ?_))))).mono ?_; rintro e w' ⟨rfl, x5, rfl⟩
  go_wp2
  go_ret
  exact Ret.of (by (repeat (first | exact grow_refl _ | refine grow_ext _ ?_ | refine grow_alloc _ ?_ | refine grow_drew ?_)))

set_option maxRecDepth 100000 in
set_option maxHeartbeats 4000000 in
theorem lawPH_n3 (q : Mb) (l : List Br) (rs : List Rn) (v u : Value) (p : Pt) (C : Bx) (up k : Int)
    (hF : ∀ w, MbAt w q → Bars w v l → Runs w u rs → Calls Tryz.prog 14 #[(.agg #[.string q.name, q.u, q.t, .int .i64 q.cover, .int .i64 q.agg, .int .i64 q.poker]), v, u, (.agg #[.int .i64 p.x, .int .i64 p.y, .int .i64 p.z])] w (Ret w (.tuple #[.bool false, .int .i64 0])))
    (hC : ∀ w, MbAt w q → Calls Tryz.prog 13 #[(.agg #[.string q.name, q.u, q.t, .int .i64 q.cover, .int .i64 q.agg, .int .i64 q.poker]), (.agg #[.int .i64 p.x, .int .i64 p.y, .int .i64 p.z])] w (Ret w (.tuple #[(.agg #[.int .i64 C.lx, .int .i64 C.ly, .int .i64 C.lz, .int .i64 C.hx, .int .i64 C.hy, .int .i64 C.hz]), .int .i64 0])))
    (hS : ∀ w, Boxes w q.u q.l → Boxes w q.t q.m → Calls Tryz.prog 26 #[.agg #[q.u, q.t], (.agg #[.int .i64 C.lx, .int .i64 C.ly, .int .i64 C.lz, .int .i64 C.hx, .int .i64 C.hy, .int .i64 C.hz])] w (Ret w (.tuple #[.bool true, .int .i64 0])))
    (hA : ∀ w, MbAt w q → Calls Tryz.prog 14 #[(.agg #[.string q.name, q.u, q.t, .int .i64 q.cover, .int .i64 q.agg, .int .i64 q.poker]), .slice none 0 0, .slice none 0 0, (.agg #[.int .i64 p.x, .int .i64 p.y, .int .i64 p.z])] w (Ret w (.tuple #[.bool true, .int .i64 0])))
    (w : World) (hq : MbAt w q) (hl : Bars w v l) (hr : Runs w u rs) :
    Calls Tryz.prog 5 #[(.agg #[.string q.name, q.u, q.t, .int .i64 q.cover, .int .i64 q.agg, .int .i64 q.poker]), v, u, (.agg #[.int .i64 p.x, .int .i64 p.y, .int .i64 p.z]), .int .u16 up, .int .u8 k] w (Ret w (.bool true)) := by
  have HQ := Lib.hid hq
  have HL := Lib.hid hl
  have HR := Lib.hid hr
  have HF := Lib.hid hF
  have HC := Lib.hid hC
  have HS := Lib.hid hS
  have HA := Lib.hid hA
  clear hq hl hr hF hC hS hA
  go_enter Tryz.func5, Tryz.ntmps5
  go_wp2_with fail
  go_at_call 11; refine (awake22_c _).mono ?_; rintro e w' ⟨rfl, x0, rfl⟩
  go_wp2_with fail
  go_at_call 12; refine (few22_c q l rs v u _ (HQ.out.below (by (repeat (first | exact grow_refl _ | refine grow_ext _ ?_ | refine grow_alloc _ ?_ | refine grow_drew ?_)))) (HL.out.below (by (repeat (first | exact grow_refl _ | refine grow_ext _ ?_ | refine grow_alloc _ ?_ | refine grow_drew ?_)))) (HR.out.below (by (repeat (first | exact grow_refl _ | refine grow_ext _ ?_ | refine grow_alloc _ ?_ | refine grow_drew ?_))))).mono ?_; rintro e w' ⟨q0, rfl, x1, rfl⟩
  cases q0
  · go_wp2
    go_ret
    exact Ret.of (by (repeat (first | exact grow_refl _ | refine grow_ext _ ?_ | refine grow_alloc _ ?_ | refine grow_drew ?_)))
  go_wp2_with fail
  go_at_call 14; refine (HF.out _ (HQ.out.below (by (repeat (first | exact grow_refl _ | refine grow_ext _ ?_ | refine grow_alloc _ ?_ | refine grow_drew ?_)))) (HL.out.below (by (repeat (first | exact grow_refl _ | refine grow_ext _ ?_ | refine grow_alloc _ ?_ | refine grow_drew ?_)))) (HR.out.below (by (repeat (first | exact grow_refl _ | refine grow_ext _ ?_ | refine grow_alloc _ ?_ | refine grow_drew ?_))))).mono ?_; rintro e w' ⟨rfl, x2, rfl⟩
  go_wp2_with fail
  go_at_call 13; refine (HC.out _ (HQ.out.below (by (repeat (first | exact grow_refl _ | refine grow_ext _ ?_ | refine grow_alloc _ ?_ | refine grow_drew ?_))))).mono ?_; rintro e w' ⟨rfl, x3, rfl⟩
  go_wp2_with fail
  go_at_call 26; refine (HS.out _ (HQ.out.boxes.below (by (repeat (first | exact grow_refl _ | refine grow_ext _ ?_ | refine grow_alloc _ ?_ | refine grow_drew ?_)))) (HQ.out.holes.below (by (repeat (first | exact grow_refl _ | refine grow_ext _ ?_ | refine grow_alloc _ ?_ | refine grow_drew ?_))))).mono ?_; rintro e w' ⟨rfl, x4, rfl⟩
  go_wp2_with fail
  go_at_call 14; refine (HA.out _ (HQ.out.below (by (repeat (first | exact grow_refl _ | refine grow_ext _ ?_ | refine grow_alloc _ ?_ | refine grow_drew ?_))))).mono ?_; rintro e w' ⟨rfl, x5, rfl⟩
  go_wp2
  go_ret
  exact Ret.of (by (repeat (first | exact grow_refl _ | refine grow_ext _ ?_ | refine grow_alloc _ ?_ | refine grow_drew ?_)))

theorem boxAt_new (W : World) (C : Bx) (g : Nat) (h : W.heap.size = g) : BoxAt (W.alloc (.cells #[.int .i64 C.lx, .int .i64 C.ly, .int .i64 C.lz, .int .i64 C.hx, .int .i64 C.hy, .int .i64 C.hz] 34)) g 0 C := by
  subst h
  have hb := Blk.new W #[.int .i64 C.lx, .int .i64 C.ly, .int .i64 C.lz, .int .i64 C.hx, .int .i64 C.hy, .int .i64 C.hz] 34
  exact ⟨hb.cell 0, hb.cell 1, hb.cell 2, hb.cell 3, hb.cell 4, hb.cell 5⟩
set_option maxRecDepth 100000 in
set_option maxHeartbeats 16000000 in
theorem lawPH_y (q : Mb) (l : List Br) (rs : List Rn) (v u : Value) (p : Pt) (C : Bx) (up k z m : Int)
    (hF : ∀ w, MbAt w q → Bars w v l → Runs w u rs → Calls Tryz.prog 14 #[(.agg #[.string q.name, q.u, q.t, .int .i64 q.cover, .int .i64 q.agg, .int .i64 q.poker]), v, u, (.agg #[.int .i64 p.x, .int .i64 p.y, .int .i64 p.z])] w (Ret w (.tuple #[.bool true, .int .i64 0])))
    (hC : ∀ w, MbAt w q → Calls Tryz.prog 13 #[(.agg #[.string q.name, q.u, q.t, .int .i64 q.cover, .int .i64 q.agg, .int .i64 q.poker]), (.agg #[.int .i64 p.x, .int .i64 p.y, .int .i64 p.z])] w (Ret w (.tuple #[(.agg #[.int .i64 C.lx, .int .i64 C.ly, .int .i64 C.lz, .int .i64 C.hx, .int .i64 C.hy, .int .i64 C.hz]), .int .i64 0])))
    (hS : ∀ w, Boxes w q.u q.l → Boxes w q.t q.m → Calls Tryz.prog 26 #[.agg #[q.u, q.t], (.agg #[.int .i64 C.lx, .int .i64 C.ly, .int .i64 C.lz, .int .i64 C.hx, .int .i64 C.hy, .int .i64 C.hz])] w (Ret w (.tuple #[.bool true, .int .i64 0])))
    (hA : ∀ w, MbAt w q → Calls Tryz.prog 14 #[(.agg #[.string q.name, q.u, q.t, .int .i64 q.cover, .int .i64 q.agg, .int .i64 q.poker]), .slice none 0 0, .slice none 0 0, (.agg #[.int .i64 p.x, .int .i64 p.y, .int .i64 p.z])] w (Ret w (.tuple #[.bool true, .int .i64 0])))
    (hup : 0 ≤ up ∧ up ≤ 65535) (hk : 0 ≤ k ∧ k ≤ 255) (_ : -1048576 ≤ p.x ∧ p.x ≤ 1048576) (_ : -1048576 ≤ p.y ∧ p.y ≤ 1048576) (hpz : -1048576 ≤ p.z ∧ p.z ≤ 1048576) (hc : p.z ≤ C.hz ∧ C.hz ≤ 1048576) (hz : p.z + m = z) (hm : up % (C.hz - p.z + 1) = m) (_ : z ≤ 1048576) (hlen : rs.length ≤ 60)
    (hB : ∀ w, MbAt w q → Bars w v l → Runs w u rs → Calls Tryz.prog 14 #[(.agg #[.string q.name, q.u, q.t, .int .i64 q.cover, .int .i64 q.agg, .int .i64 q.poker]), v, u, (.agg #[.int .i64 p.x, .int .i64 p.y, .int .i64 z])] w (Ret w (.tuple #[.bool true, .int .i64 0])))
    (hD : ∀ i, i < rs.length → ∀ u' w, MbAt w q → Bars w v l → Runs w u' (rs.take i ++ rs.drop (i + 1)) → Calls Tryz.prog 14 #[(.agg #[.string q.name, q.u, q.t, .int .i64 q.cover, .int .i64 q.agg, .int .i64 q.poker]), v, u', (.agg #[.int .i64 p.x, .int .i64 p.y, .int .i64 p.z])] w (Ret w (.tuple #[.bool true, .int .i64 0])))
    (w : World) (hq : MbAt w q) (hl : Bars w v l) (hr : Runs w u rs) :
    Calls Tryz.prog 5 #[(.agg #[.string q.name, q.u, q.t, .int .i64 q.cover, .int .i64 q.agg, .int .i64 q.poker]), v, u, (.agg #[.int .i64 p.x, .int .i64 p.y, .int .i64 p.z]), .int .u16 up, .int .u8 k] w (Ret w (.bool true)) := by
  have HQ := Lib.hid hq
  have HL := Lib.hid hl
  have HR := Lib.hid hr
  have HF := Lib.hid hF
  have HC := Lib.hid hC
  have HS := Lib.hid hS
  have HA := Lib.hid hA
  have HB := Lib.hid hB
  have HD := Lib.hid hD
  have r1 : up.tmod (C.hz - p.z + 1) = m := by rw [Int.tmod_eq_emod_of_nonneg hup.1, hm]
  have z1 : C.hz - p.z + 1 ≠ 0 := by omega
  have w1 : IntKind.i64.wrap up = up := IntWalk.i64_in _ (by omega)
  have w2 : IntKind.i64.wrap k = k := IntWalk.i64_in _ (by omega)
  have hmr : 0 ≤ m ∧ m ≤ 2097153 := by
    have h1 := Int.emod_nonneg up z1
    have h2 := Int.emod_lt_of_pos up (show 0 < C.hz - p.z + 1 by omega)
    omega
  obtain ⟨ua, uc, rfl, u2, u3, -⟩ := hr.shape
  have HZ := Lib.hid hz
  have HKK := Lib.hid hk
  have HRS := Lib.hid (Runs.marks hr)
  clear hq hl hr hF hC hS hA hB hD hup hk hm hz
  go_enter Tryz.func5, Tryz.ntmps5
  go_wp2_with fail
  go_at_call 11; refine (awake22_c _).mono ?_; rintro e w' ⟨rfl, x0, rfl⟩
  go_wp2_with fail
  go_at_call 12; refine (few22_c q l rs v _ _ (HQ.out.below (by (repeat (first | exact grow_refl _ | refine grow_ext _ ?_ | refine grow_alloc _ ?_ | refine grow_drew ?_)))) (HL.out.below (by (repeat (first | exact grow_refl _ | refine grow_ext _ ?_ | refine grow_alloc _ ?_ | refine grow_drew ?_)))) (HR.out.below (by (repeat (first | exact grow_refl _ | refine grow_ext _ ?_ | refine grow_alloc _ ?_ | refine grow_drew ?_))))).mono ?_; rintro e w' ⟨q0, rfl, x1, rfl⟩
  cases q0
  · go_wp2
    go_ret
    exact Ret.of (by (repeat (first | exact grow_refl _ | refine grow_ext _ ?_ | refine grow_alloc _ ?_ | refine grow_drew ?_)))
  go_wp2_with fail
  go_at_call 14; refine (HF.out _ (HQ.out.below (by (repeat (first | exact grow_refl _ | refine grow_ext _ ?_ | refine grow_alloc _ ?_ | refine grow_drew ?_)))) (HL.out.below (by (repeat (first | exact grow_refl _ | refine grow_ext _ ?_ | refine grow_alloc _ ?_ | refine grow_drew ?_)))) (HR.out.below (by (repeat (first | exact grow_refl _ | refine grow_ext _ ?_ | refine grow_alloc _ ?_ | refine grow_drew ?_))))).mono ?_; rintro e w' ⟨rfl, x2, rfl⟩
  go_wp2_with fail
  go_at_call 13; refine (HC.out _ (HQ.out.below (by (repeat (first | exact grow_refl _ | refine grow_ext _ ?_ | refine grow_alloc _ ?_ | refine grow_drew ?_))))).mono ?_; rintro e w' ⟨rfl, x3, rfl⟩
  go_wp2_with fail
  go_at_call 26; refine (HS.out _ (HQ.out.boxes.below (by (repeat (first | exact grow_refl _ | refine grow_ext _ ?_ | refine grow_alloc _ ?_ | refine grow_drew ?_)))) (HQ.out.holes.below (by (repeat (first | exact grow_refl _ | refine grow_ext _ ?_ | refine grow_alloc _ ?_ | refine grow_drew ?_))))).mono ?_; rintro e w' ⟨rfl, x4, rfl⟩
  go_wp2_with fail
  go_at_call 14; refine (HA.out _ (HQ.out.below (by (repeat (first | exact grow_refl _ | refine grow_ext _ ?_ | refine grow_alloc _ ?_ | refine grow_drew ?_))))).mono ?_; rintro e w' ⟨rfl, x5, rfl⟩
  go_wp2_with fail
  refine world_mask (fun W => (∃ z, W = ext w z) ∧ MCells22 W w.heap.size q.name q.u q.t q.cover q.agg q.poker ∧ PtAt W (w.heap.size + 1) 0 p ∧ BoxAt W (w.heap.size + 1 + 1 + x0.heap.size + x1.heap.size + x2.heap.size + x3.heap.size) 0 C) _ ⟨ext_of (by (repeat (first | exact grow_refl _ | refine grow_ext _ ?_ | refine grow_alloc _ ?_ | refine grow_drew ?_))), by simp [MCells22, go_sem], by simp [PtAt, go_sem], BoxAt.ext (BoxAt.ext (boxAt_new _ C _ (by simp only [size_ext, World.size_alloc])) _) _⟩ ?_
  rintro W1 ⟨hbe, hm1, hp1, hb1⟩
  have HBE := Lib.hid (show Below w.heap.size w W1 by obtain ⟨z, rfl⟩ := hbe; exact below_ext _ _)
  have HM1 := Lib.hid hm1
  have HP1 := Lib.hid hp1
  have HB1 := Lib.hid hb1
  obtain ⟨m0, m1, m2, m3, m4, m5⟩ := hm1
  obtain ⟨n0, n1, n2⟩ := hp1
  obtain ⟨b0, b1, b2, b3, b4, b5⟩ := hb1
  simp only [Nat.zero_add] at n1 n2 b1 b2 b3 b4 b5
  clear hbe
  have k1 : IntKind.i64.wrap (C.hz - p.z) = C.hz - p.z := IntWalk.i64_in _ (by omega)
  have k2 : IntKind.i64.wrap (C.hz - p.z + 1) = C.hz - p.z + 1 := IntWalk.i64_in _ (by omega)
  have k3 : IntKind.i64.wrap (p.z + m) = p.z + m := IntWalk.i64_in _ (by omega)
  go_upto_region 15 with fail
  go_cut [21] (fun s21 wx => ∃ g, s21 = .pointer (some ⟨g, 0, none⟩) ∧ PtAt wx g 0 ⟨p.x, p.y, p.z + m⟩ ∧ Below W1.heap.size W1 wx)
  case first =>
    refine wp_region_inv (Inv15 (fun s21 s87 s88 s89 s90 s91 s92 s93 s94 s95 s96 s97 s98 s99 s100 s101 s102 s103 s104 => { tmps := #[Value.agg #[Value.string q.name, q.u, q.t, Value.int IntKind.i64 q.cover, Value.int IntKind.i64 q.agg, Value.int IntKind.i64 q.poker], v, Value.slice ua rs.length uc, Value.agg #[Value.int IntKind.i64 p.x, Value.int IntKind.i64 p.y, Value.int IntKind.i64 p.z], Value.int IntKind.u16 up, Value.int IntKind.u8 k, Value.pointer (some { block := w.heap.size, off := 0 }), undef, undef, Value.pointer (some { block := w.heap.size + 1, off := 0 }), undef, undef, Value.bool false, Value.bool true, Value.int IntKind.i64 0, Value.pointer (some { block := w.heap.size + 1 + 1 + x0.heap.size + x1.heap.size + x2.heap.size + x3.heap.size, off := 0 }), Value.int IntKind.i64 0, Value.bool true, Value.int IntKind.i64 0, Value.bool true, Value.int IntKind.i64 0, s21, undef, undef, undef, Value.bool true, Value.bool false, Value.agg #[Value.string q.name, q.u, q.t, Value.int IntKind.i64 q.cover, Value.int IntKind.i64 q.agg, Value.int IntKind.i64 q.poker], v, Value.slice ua rs.length uc, Value.bool true, Value.bool false, Value.tuple #[Value.bool true, Value.int IntKind.i64 0], Value.agg #[Value.string q.name, q.u, q.t, Value.int IntKind.i64 q.cover, Value.int IntKind.i64 q.agg, Value.int IntKind.i64 q.poker], v, Value.slice ua rs.length uc, Value.agg #[Value.int IntKind.i64 p.x, Value.int IntKind.i64 p.y, Value.int IntKind.i64 p.z], Value.tuple #[Value.bool true, Value.int IntKind.i64 0], Value.bool true, Value.int IntKind.i64 0, Value.tuple #[Value.agg #[Value.int IntKind.i64 C.lx, Value.int IntKind.i64 C.ly, Value.int IntKind.i64 C.lz, Value.int IntKind.i64 C.hx, Value.int IntKind.i64 C.hy, Value.int IntKind.i64 C.hz], Value.int IntKind.i64 0], Value.agg #[Value.string q.name, q.u, q.t, Value.int IntKind.i64 q.cover, Value.int IntKind.i64 q.agg, Value.int IntKind.i64 q.poker], Value.agg #[Value.int IntKind.i64 p.x, Value.int IntKind.i64 p.y, Value.int IntKind.i64 p.z], Value.tuple #[Value.agg #[Value.int IntKind.i64 C.lx, Value.int IntKind.i64 C.ly, Value.int IntKind.i64 C.lz, Value.int IntKind.i64 C.hx, Value.int IntKind.i64 C.hy, Value.int IntKind.i64 C.hz], Value.int IntKind.i64 0], Value.agg #[Value.int IntKind.i64 C.lx, Value.int IntKind.i64 C.ly, Value.int IntKind.i64 C.lz, Value.int IntKind.i64 C.hx, Value.int IntKind.i64 C.hy, Value.int IntKind.i64 C.hz], Value.int IntKind.i64 0, Value.int IntKind.i64 0, Value.bool false, Value.bool false, Value.int IntKind.i64 0, Value.bool false, Value.bool false, undef, undef, Value.tuple #[Value.bool true, Value.int IntKind.i64 0], Value.pointer (some { block := w.heap.size, off := 1 }), Value.agg #[q.u, q.t], Value.agg #[Value.int IntKind.i64 C.lx, Value.int IntKind.i64 C.ly, Value.int IntKind.i64 C.lz, Value.int IntKind.i64 C.hx, Value.int IntKind.i64 C.hy, Value.int IntKind.i64 C.hz], Value.tuple #[Value.bool true, Value.int IntKind.i64 0], Value.bool true, Value.int IntKind.i64 0, Value.tuple #[Value.bool true, Value.int IntKind.i64 0], Value.agg #[Value.string q.name, q.u, q.t, Value.int IntKind.i64 q.cover, Value.int IntKind.i64 q.agg, Value.int IntKind.i64 q.poker], Value.agg #[Value.int IntKind.i64 p.x, Value.int IntKind.i64 p.y, Value.int IntKind.i64 p.z], Value.tuple #[Value.bool true, Value.int IntKind.i64 0], Value.bool true, Value.int IntKind.i64 0, Value.int IntKind.i64 0, Value.bool false, Value.bool false, Value.bool true, Value.int IntKind.i64 0, Value.bool true, Value.bool true, Value.bool true, Value.bool true, Value.bool false, Value.bool false, Value.bool false, Value.bool true, Value.bool true, Value.bool true, Value.bool false, Value.bool false, Value.bool false, Value.bool true, Value.bool false, s87, s88, s89, s90, s91, s92, s93, s94, s95, s96, s97, s98, s99, s100, s101, s102, s103, s104, undef, undef, undef, undef, undef, undef, undef, undef, undef, undef, undef, undef, undef, undef, undef, undef, undef, undef, undef, undef, undef, undef, undef, undef, undef, undef, undef, undef, undef, undef, undef, undef, undef, undef, undef, undef, undef, undef, undef, undef, undef, undef, undef, undef, undef, undef, undef, undef, undef, undef, undef], defers := [] }) W1 (w.heap.size + 1) (w.heap.size + 1 + 1 + x0.heap.size + x1.heap.size + x2.heap.size + x3.heap.size) p up C.hz m) (by kernel_rfl) (by kernel_rfl) ?_ ?_ ?_
    · exact ⟨undef, undef, undef, undef, undef, undef, undef, undef, undef, undef, undef, undef, undef, undef, undef, undef, undef, undef, undef, rfl, { below := (Below.refl _ _).drew, rA := fun e => by simp at e, c19 := fun e => by simp at e, e0 := fun e => by simp at e, e1 := fun e => by simp at e, e2 := fun e => by simp at e, e3 := fun e => by simp at e, e4 := fun e => by simp at e, e5 := fun e => by simp at e, e6 := fun e => by simp at e, e7 := fun e => by simp at e, e8 := fun e => by simp at e, e9 := fun e => by simp at e, e10 := fun e => by simp at e, e11 := fun e => by simp at e, e12 := fun e => by simp at e, e13 := fun e => by simp at e, e14 := fun e => by simp at e, e15 := fun e => by simp at e, e16 := fun e => by simp at e, e17 := fun e => by simp at e }⟩
    · rintro L a W i ⟨s21, s87, s88, s89, s90, s91, s92, s93, s94, s95, s96, s97, s98, s99, s100, s101, s102, s103, s104, rfl, hI⟩ hi
      dsimp only
      obtain ⟨hun, o, ho, hd⟩ := mem_ready.1 hi
      have hi20 : i < 20 := by have := (Array.getElem?_eq_some_iff.1 ho).1; simpa using this
      have hcells : PtAt W (w.heap.size + 1) 0 p ∧ BoxAt W (w.heap.size + 1 + 1 + x0.heap.size + x1.heap.size + x2.heap.size + x3.heap.size) 0 C := by
        obtain ⟨y, ey⟩ := ext_of hI.below
        rw [ey]
        exact ⟨HP1.out.ext y, HB1.out.ext y⟩
      obtain ⟨⟨c0, c1, c2⟩, -, -, -, -, -, b5⟩ := hcells
      simp only [Nat.zero_add] at c1 c2 b5
      rcases (show i = 0 ∨ i = 1 ∨ i = 2 ∨ i = 3 ∨ i = 4 ∨ i = 5 ∨ i = 6 ∨ i = 7 ∨ i = 8 ∨ i = 9 ∨ i = 10 ∨ i = 11 ∨ i = 12 ∨ i = 13 ∨ i = 14 ∨ i = 15 ∨ i = 16 ∨ i = 17 ∨ i = 18 ∨ i = 19 by omega) with rfl | rfl | rfl | rfl | rfl | rfl | rfl | rfl | rfl | rfl | rfl | rfl | rfl | rfl | rfl | rfl | rfl | rfl | rfl | rfl
      · obtain rfl := Option.some.inj ho
        refine wpOp_of_list (by rfl) ?_
        go_wp2
        exact ⟨_, _, _, _, _, _, _, _, _, _, _, _, _, _, _, _, _, _, _, rfl, hI.up0 rfl⟩
      · obtain rfl := Option.some.inj ho
        have d0 := hI.e0 (getD_up (hd ⟨0, .data⟩ (by simp) (by rfl)))
        subst d0
        refine wpOp_of_list (by rfl) ?_
        go_wp2
        exact ⟨_, _, _, _, _, _, _, _, _, _, _, _, _, _, _, _, _, _, _, rfl, hI.up1 rfl⟩
      · obtain rfl := Option.some.inj ho
        refine wpOp_of_list (by rfl) ?_
        go_wp2
        exact ⟨_, _, _, _, _, _, _, _, _, _, _, _, _, _, _, _, _, _, _, rfl, hI.up2 rfl⟩
      · obtain rfl := Option.some.inj ho
        have d2 := hI.e2 (getD_up (hd ⟨2, .data⟩ (by simp) (by rfl)))
        subst d2
        refine wpOp_of_list (by rfl) ?_
        go_wp2
        exact ⟨_, _, _, _, _, _, _, _, _, _, _, _, _, _, _, _, _, _, _, rfl, hI.up3 rfl⟩
      · obtain rfl := Option.some.inj ho
        refine wpOp_of_list (by rfl) ?_
        go_wp2
        exact ⟨_, _, _, _, _, _, _, _, _, _, _, _, _, _, _, _, _, _, _, rfl, hI.up4 rfl⟩
      · obtain rfl := Option.some.inj ho
        have d4 := hI.e4 (getD_up (hd ⟨4, .data⟩ (by simp) (by rfl)))
        subst d4
        refine wpOp_of_list (by rfl) ?_
        go_wp2
        exact ⟨_, _, _, _, _, _, _, _, _, _, _, _, _, _, _, _, _, _, _, rfl, hI.up5 rfl⟩
      · obtain rfl := Option.some.inj ho
        refine wpOp_of_list (by rfl) ?_
        go_wp2
        exact ⟨_, _, _, _, _, _, _, _, _, _, _, _, _, _, _, _, _, _, _, rfl, hI.up6 rfl⟩
      · obtain rfl := Option.some.inj ho
        have d6 := hI.e6 (getD_up (hd ⟨6, .data⟩ (by simp) (by rfl)))
        subst d6
        refine wpOp_of_list (by rfl) ?_
        go_wp2
        exact ⟨_, _, _, _, _, _, _, _, _, _, _, _, _, _, _, _, _, _, _, rfl, hI.up7 rfl⟩
      · obtain rfl := Option.some.inj ho
        refine wpOp_of_list (by rfl) ?_
        go_wp2
        exact ⟨_, _, _, _, _, _, _, _, _, _, _, _, _, _, _, _, _, _, _, rfl, hI.up8 rfl⟩
      · obtain rfl := Option.some.inj ho
        have d8 := hI.e8 (getD_up (hd ⟨8, .data⟩ (by simp) (by rfl)))
        subst d8
        refine wpOp_of_list (by rfl) ?_
        go_wp2
        exact ⟨_, _, _, _, _, _, _, _, _, _, _, _, _, _, _, _, _, _, _, rfl, hI.up9 rfl⟩
      · obtain rfl := Option.some.inj ho
        have d9 := hI.e9 (getD_up (hd ⟨9, .data⟩ (by simp) (by rfl)))
        subst d9
        refine wpOp_of_list (by rfl) ?_
        go_wp2
        exact ⟨_, _, _, _, _, _, _, _, _, _, _, _, _, _, _, _, _, _, _, rfl, hI.up10 rfl⟩
      · obtain rfl := Option.some.inj ho
        refine wpOp_of_list (by rfl) ?_
        go_wp2
        exact ⟨_, _, _, _, _, _, _, _, _, _, _, _, _, _, _, _, _, _, _, rfl, hI.up11 rfl⟩
      · obtain rfl := Option.some.inj ho
        have d11 := hI.e11 (getD_up (hd ⟨11, .data⟩ (by simp) (by rfl)))
        subst d11
        refine wpOp_of_list (by rfl) ?_
        go_wp2
        exact ⟨_, _, _, _, _, _, _, _, _, _, _, _, _, _, _, _, _, _, _, rfl, hI.up12 rfl⟩
      · obtain rfl := Option.some.inj ho
        have d10 := hI.e10 (getD_up (hd ⟨10, .data⟩ (by simp) (by rfl)))
        have d12 := hI.e12 (getD_up (hd ⟨12, .data⟩ (by simp) (by rfl)))
        subst d10 d12
        refine wpOp_of_list (by rfl) ?_
        go_wp2
        exact ⟨_, _, _, _, _, _, _, _, _, _, _, _, _, _, _, _, _, _, _, rfl, hI.up13 rfl⟩
      · obtain rfl := Option.some.inj ho
        have d13 := hI.e13 (getD_up (hd ⟨13, .data⟩ (by simp) (by rfl)))
        subst d13
        refine wpOp_of_list (by rfl) ?_
        go_wp2
        exact ⟨_, _, _, _, _, _, _, _, _, _, _, _, _, _, _, _, _, _, _, rfl, hI.up14 rfl⟩
      · obtain rfl := Option.some.inj ho
        have d7 := hI.e7 (getD_up (hd ⟨7, .data⟩ (by simp) (by rfl)))
        have d14 := hI.e14 (getD_up (hd ⟨14, .data⟩ (by simp) (by rfl)))
        subst d7 d14
        refine wpOp_of_list (by rfl) ?_
        go_wp2
        exact ⟨_, _, _, _, _, _, _, _, _, _, _, _, _, _, _, _, _, _, _, rfl, hI.up15 rfl⟩
      · obtain rfl := Option.some.inj ho
        have d5 := hI.e5 (getD_up (hd ⟨5, .data⟩ (by simp) (by rfl)))
        have d15 := hI.e15 (getD_up (hd ⟨15, .data⟩ (by simp) (by rfl)))
        subst d5 d15
        refine wpOp_of_list (by rfl) ?_
        go_wp2
        exact ⟨_, _, _, _, _, _, _, _, _, _, _, _, _, _, _, _, _, _, _, rfl, hI.up16 rfl⟩
      · obtain rfl := Option.some.inj ho
        have d1 := hI.e1 (getD_up (hd ⟨1, .data⟩ (by simp) (by rfl)))
        have d3 := hI.e3 (getD_up (hd ⟨3, .data⟩ (by simp) (by rfl)))
        have d16 := hI.e16 (getD_up (hd ⟨16, .data⟩ (by simp) (by rfl)))
        subst d1 d3 d16
        refine wpOp_of_list (by rfl) ?_
        go_wp2_with fail
        go_at_call 27; refine (at22_c _ _ _ _).mono ?_; rintro e w' ⟨rfl, xq, rfl⟩
        go_wp2
        exact ⟨_, _, _, _, _, _, _, _, _, _, _, _, _, _, _, _, _, _, _, rfl, (hI.grown _).up17 rfl⟩
      · obtain rfl := Option.some.inj ho
        refine wpOp_of_list (by rfl) ?_
        go_wp2
        exact ⟨_, _, _, _, _, _, _, _, _, _, _, _, _, _, _, _, _, _, _, rfl, hI.up18 _ _ _ (fun e => by have := hI.c19 e; rw [hun] at this; cases this)⟩
      · obtain rfl := Option.some.inj ho
        have d17 := hI.e17 (getD_up (hd ⟨17, .data⟩ (by simp) (by rfl)))
        obtain ⟨g, hs, hg, a0, a1, a2, hb, -⟩ := hI.rA (getD_up (hd ⟨18, .data⟩ (by simp) (by rfl)))
        have f0 : W.frozen? ⟨g, 0, none⟩ = false := hb.frozen 0
        have f1 : W.frozen? ⟨g, 1, none⟩ = false := hb.frozen 1
        have f2 : W.frozen? ⟨g, 2, none⟩ = false := hb.frozen 2
        have g0 : W.cell? ⟨g, 0, none⟩ = some a0 := hb.cell 0
        have g1 : W.cell? ⟨g, 1, none⟩ = some a1 := hb.cell 1
        have g2 : W.cell? ⟨g, 2, none⟩ = some a2 := hb.cell 2
        subst hs d17
        refine wpOp_of_list (by rfl) ?_
        go_wp2
        exact ⟨_, _, _, _, _, _, _, _, _, _, _, _, _, _, _, _, _, _, _, rfl, hI.up19 rfl hg (((hI.below.setCell hg _).setCell hg _).setCell hg _) (((hb.set 0 _).set 1 _).set 2 _) (getD_up (hd ⟨18, .data⟩ (by simp) (by rfl)))⟩
    · rintro L a W ⟨s21, s87, s88, s89, s90, s91, s92, s93, s94, s95, s96, s97, s98, s99, s100, s101, s102, s103, s104, rfl, hI⟩ hall
      obtain ⟨g, hs, hg, a0, a1, a2, hb, hc⟩ := hI.rA (hall 18 (by decide))
      have hcc := hc (hall 19 (by decide))
      simp only [Array.mk.injEq, List.cons.injEq, and_true] at hcc
      obtain ⟨rfl, rfl, rfl⟩ := hcc
      subst hs
      have HBW := Lib.hid hI.below
      have HBK := Lib.hid hb
      clear hI hb hc hall hg
      dsimp only
      go_wp2_with fail
      go_meet
      exact ⟨g, rfl, ⟨HBK.out.cell 0, HBK.out.cell 1, HBK.out.cell 2⟩, HBW.out⟩
  case rest =>
    obtain ⟨g, rfl, hpt, hbl⟩ := hcut
    obtain ⟨W2, rfl⟩ : ∃ W : World, W = wc := ⟨_, rfl⟩
    clear m0 m1 m2 m3 m4 m5 n0 n1 n2 b0 b1 b2 b3 b4 b5 r1 z1 k1 k2 k3
    have HB2 := Lib.hid (show Below w.heap.size w W2 from below22 HBE.out hbl)
    rw [HZ.out] at hpt
    have HPT := Lib.hid hpt
    obtain ⟨t0, t1, t2⟩ := hpt
    simp only [Nat.zero_add] at t1 t2
    obtain ⟨y, ey⟩ := ext_of hbl
    have hm2 := HM1.out.ext y
    have hp2 := HP1.out.ext y
    rw [← ey] at hm2 hp2
    have HM2 := Lib.hid hm2
    have HP2 := Lib.hid hp2
    obtain ⟨m0, m1, m2, m3, m4, m5⟩ := hm2
    obtain ⟨n0, n1, n2⟩ := hp2
    simp only [Nat.zero_add] at n1 n2
    clear hbl ey HM1 HP1 HB1
    go_wp2_with fail
    go_at_call 14; refine (HB.out _ (HQ.out.below HB2.out) (HL.out.below HB2.out) (HR.out.below HB2.out)).mono ?_; rintro e w' ⟨rfl, y1, rfl⟩
    by_cases h0 : rs.length = 0
    · have d0 : ((rs.length : Int) == 0) = true := by rw [beq_iff_eq]; omega
      clear m0 m1 m2 m3 m4 m5 n0 n1 n2 t0 t1 t2
      go_wp2
      go_ret
      exact Ret.of (below22 HB2.out (by (repeat (first | exact grow_refl _ | refine grow_ext _ ?_ | refine grow_alloc _ ?_ | refine grow_drew ?_))))
    have d0 : ((rs.length : Int) == 0) = false := by rw [beq_eq_false_iff_ne]; omega
    obtain ⟨J, hJ⟩ : ∃ J : Nat, k % (rs.length : Int) = J := ⟨(k % (rs.length : Int)).toNat, by have := Int.emod_nonneg k (show (rs.length : Int) ≠ 0 by omega); omega⟩
    have hJn : J < rs.length := by have := Int.emod_lt_of_pos k (show (0 : Int) < (rs.length : Int) by omega); omega
    have r2 : k.tmod (rs.length : Int) = J := by rw [Int.tmod_eq_emod_of_nonneg HKK.out.1, hJ]
    have z2 : (rs.length : Int) ≠ 0 := by omega
    have HDJ := Lib.hid (HD.out J hJn)
    have HJN := Lib.hid hJn
    clear m0 m1 m2 m3 m4 m5 n0 n1 n2 t0 t1 t2 hJ
    obtain ⟨m0, m1, m2, m3, m4, m5⟩ := HM2.out.ext y1
    obtain ⟨n0, n1, n2⟩ := HP2.out.ext y1
    simp only [Nat.zero_add] at n1 n2
    have z3 : rs ≠ [] := fun e => h0 (by rw [e]; rfl)
    have z4 : rs.length ≠ 0 := h0
    have k4 : IntKind.i64.wrap ((J : Int) + 1) = (J : Int) + 1 := IntWalk.i64_in _ (by omega)
    clear h0
    go_upto_region 19 with fail
    go_cut [24] (fun s24 wx => Runs wx s24 (rs.take J ++ rs.drop (J + 1)) ∧ Below (ext W2 y1).heap.size (ext W2 y1) wx)
    case first =>
      go_region_with (first
        | (go_at_call 29; refine (cloneRn_c rs _ _ ((HR.out.below HB2.out).below (by (repeat (first | exact grow_refl _ | refine grow_ext _ ?_ | refine grow_alloc _ ?_ | refine grow_drew ?_)))) (by omega)).mono ?_; rintro e w' ⟨vc, rfl, hown, xc, rfl⟩; try (rw [ext_drew] at hown); have HOWN := Lib.hid hown; clear hown)
        | (go_at_call 28; refine (deleteRn_c rs HRS.out J HJN.out _ _ _ HOWN.out).mono ?_; rintro e w' ⟨vd, rfl, hrd, hbd⟩))
      all_goals
        go_wp2_with fail
        go_meet
        exact ⟨hrd, Below.trans (by (repeat (first | exact grow_refl _ | refine grow_ext _ ?_ | refine grow_alloc _ ?_ | refine grow_drew ?_))) hbd⟩
    case rest =>
      obtain ⟨hru, hbl⟩ := hcut
      obtain ⟨W3, rfl⟩ : ∃ W : World, W = wc := ⟨_, rfl⟩
      have HB3 := Lib.hid (show Below w.heap.size w W3 from below22 (below22 HB2.out (below_ext _ _)) hbl)
      have HRU := Lib.hid hru
      obtain ⟨ru, rcap, ern, -, -, -⟩ := hru.shape
      clear m0 m1 m2 m3 m4 m5 n0 n1 n2 r2 z2 z3 z4 k4
      obtain ⟨y3, ey3⟩ := ext_of hbl
      have hm3 := (HM2.out.ext y1).ext y3
      have hp3 := (HP2.out.ext y1).ext y3
      rw [← ey3] at hm3 hp3
      obtain ⟨m0, m1, m2, m3, m4, m5⟩ := hm3
      obtain ⟨n0, n1, n2⟩ := hp3
      simp only [Nat.zero_add] at n1 n2
      clear hru hbl ey3 ern
      go_wp2_with fail
      go_at_call 14; refine (HDJ.out _ _ (HQ.out.below HB3.out) (HL.out.below HB3.out) HRU.out).mono ?_; rintro e w' ⟨rfl, y5, rfl⟩
      clear m0 m1 m2 m3 m4 m5 n0 n1 n2
      go_wp2
      go_ret
      exact Ret.of (below22 HB3.out (by (repeat (first | exact grow_refl _ | refine grow_ext _ ?_ | refine grow_alloc _ ?_ | refine grow_drew ?_))))

theorem lawPokerHigher_c (q : Mb) (l : List Br) (v : Value) (rs : List Rn) (u : Value) (x y z : Int) (up k : Int) (hup : 0 ≤ up ∧ up ≤ 65535) (hk : 0 ≤ k ∧ k ≤ 255) (w : World) (hq : MbAt w q) (hl : Bars w v l) (hr : Runs w u rs) :
    Calls Tryz.prog 5 #[(.agg #[.string q.name, q.u, q.t, .int .i64 q.cover, .int .i64 q.agg, .int .i64 q.poker]), v, u, (.agg #[.int .i64 x, .int .i64 y, .int .i64 z]), .int .u16 up, .int .u8 k] w (Ret w (.bool true)) := by
  obtain ⟨p, hp⟩ : ∃ p : Pt, p = ⟨x, y, z⟩ := ⟨_, rfl⟩
  obtain ⟨ex, ey, ez⟩ : p.x = x ∧ p.y = y ∧ p.z = z := by subst hp; exact ⟨rfl, rfl, rfl⟩
  subst ex ey ez
  clear hp
  rcases freeE_cases q l rs p with ⟨e, h, he⟩ | ⟨⟨hm, hv, hn, hz⟩, h⟩
  · exact lawPH_err q l rs v u p up k e h he w hq hl hr
  have hs := (okMb_facts hm).1
  have hcol : columnE q p = (colX q p, 0) := by unfold columnE; rw [if_pos hm, if_pos (by unfold tipB; rw [hn, decide_eq_true hz]; rfl)]
  have hC := fun w hq => pColumn_v q p _ _ hcol w hq
  have hA := fun w hq => pFree_v q [] [] p (.slice none 0 0) (.slice none 0 0) _ _ (free_ok hm laid_none hn hz) w hq (nils w).1 (nils w).2
  rw [rods_none, free_alone] at hA
  have hFq := fun w hq hl hr => pFree_v q l rs p v u _ _ h w hq hl hr
  have hal : freeR q (rodsI l rs) p = true → (validB (colX q p) && containsS q.l q.m (colX q p)) = true := fun h => by
    rw [← free_alone]; exact free_fewer h (fun r hr => by cases hr)
  have hS := fun B E (h : containsR17 q.l q.m (colX q p) = (B, E)) w hl hm => solidContains_v q.l q.m q.u q.t (colX q p) (B, E) h w hl hm
  cases hV : validB (colX q p)
  · rw [hV, Bool.false_and] at hA hal
    have hF0 : freeR q (rodsI l rs) p = false := by
      cases hf : freeR q (rodsI l rs) p
      · rfl
      · exact absurd (hal hf) (by decide)
    rw [hF0] at hFq
    exact lawPH_n1 q l rs v u p (colX q p) up k hFq hC (hS false 1 (by unfold containsR17; rw [if_neg (fun h => by rw [hV] at h; cases h.2)])) hA w hq hl hr
  rw [hV, Bool.true_and] at hA hal
  cases hI : containsS q.l q.m (colX q p)
  · rw [hI] at hA hal
    have hF0 : freeR q (rodsI l rs) p = false := by
      cases hf : freeR q (rodsI l rs) p
      · rfl
      · exact absurd (hal hf) (by decide)
    rw [hF0] at hFq
    exact lawPH_n2 q l rs v u p (colX q p) up k hFq hC (hS false 0 (by unfold containsR17; rw [if_pos ⟨hs, hV⟩, hI])) hA w hq hl hr
  rw [hI] at hA
  have hS1 := hS true 0 (by unfold containsR17; rw [if_pos ⟨hs, hV⟩, hI])
  cases hf : freeR q (rodsI l rs) p
  · rw [hf] at hFq
    exact lawPH_n3 q l rs v u p (colX q p) up k hFq hC hS1 hA w hq hl hr
  rw [hf] at hFq
  obtain ⟨n1, n2, n3⟩ := near_iff.1 hn
  have hcz : (colX q p).hz = topI q := rfl
  have htop : topI q ≤ 1048576 := by have := valid_iff.1 hV; rw [hcz] at this; omega
  have hpos : 0 < topI q - p.z + 1 := by omega
  have e1 := Int.emod_nonneg up (show topI q - p.z + 1 ≠ 0 by omega)
  have e2 := Int.emod_lt_of_pos up hpos
  have hz2 : p.z + up % (topI q - p.z + 1) ≤ topI q := by omega
  have hnb : nearB ⟨p.x, p.y, p.z + up % (topI q - p.z + 1)⟩ 1048576 = true := near_iff.2 ⟨n1, n2, by simp only; omega⟩
  refine lawPH_y q l rs v u p (colX q p) up k (p.z + up % (topI q - p.z + 1)) (up % (topI q - p.z + 1)) hFq hC hS1 hA hup hk n1 n2 n3 ⟨by rw [hcz]; exact hz, by rw [hcz]; exact htop⟩ rfl (by rw [hcz]) (by omega) (laidB_iff.1 hv).2.1 (fun w hq hl hr => ?_) (fun i hi u' w hq hl hr => ?_) w hq hl hr
  · have := pFree_v q l rs ⟨p.x, p.y, p.z + up % (topI q - p.z + 1)⟩ v u true 0 (by rw [free_ok hm hv hnb hz2, free_up hf (by omega) hz2]) w hq hl hr
    exact this
  · exact pFree_v q l (rs.take i ++ rs.drop (i + 1)) p v u' true 0 (by rw [free_ok hm (laid_erase hv hi) hn hz, free_fewer hf (rods_erase hv hi)]) w hq hl hr

end Go.Proofs.YtmoechhfjmemaaaGreat

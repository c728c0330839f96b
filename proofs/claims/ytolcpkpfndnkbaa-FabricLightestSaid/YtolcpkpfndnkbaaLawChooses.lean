/- FabricChooses: the walk of the law. -/
import Derived.Test.YtolcpkpfndnkbaaFabI
import Derived.Test.YtolcpkpfndnkbaaFabM
namespace Go.Proofs.Ytolcpkpfndnkbaa
open Go.RowKit

theorem chooseR_none {l : List Fb} {m c : Int} (hv : fabsB l = true) (h : chooseN l m c l.length = none) : chooseR l m c = (0, 12) := by
  unfold chooseR; rw [if_pos hv, h]
theorem chooseR_some {l : List Fb} {m c : Int} (hv : fabsB l = true) (j : Nat) (g : Fb) (h : chooseN l m c l.length = some (j, g)) : chooseR l m c = ((j : Int), 0) := by
  unfold chooseR; rw [if_pos hv, h]

set_option maxRecDepth 100000 in
set_option maxHeartbeats 2000000 in
theorem lawFabricChooses_c (l : List Fb) (v : Value) (m c : Int) (_h1 : -9223372036854775808 ≤ m ∧ m ≤ 9223372036854775807) (_h2 : -9223372036854775808 ≤ c ∧ c ≤ 9223372036854775807) (w : World) (hl : Fabs w v l) :
    Calls Try.prog 8 #[v, .int .i64 m, .int .i64 c] w (Ret w (.bool true)) := by
  have HL := Lib.hid hl
  have R1 := Lib.hid (fun w hl => long_c l v w hl)
  cases hlo : longB l
  case true =>
    rw [hlo] at R1
    clear hl hlo
    go_enter Try.func8, Try.ntmps8
    go_wp2_with fail
    go_at_call 11; refine (fabAwake_c _).mono ?_; rintro e w' ⟨rfl, x0, rfl⟩
    go_wp2_with fail
    go_at_call 26; refine (R1.out _ (HL.out.below (by (repeat (first | exact grow_refl _ | refine grow_ext _ ?_ | refine grow_alloc _ ?_ | refine grow_drew ?_))))).mono ?_; rintro e w' ⟨rfl, x1, rfl⟩
    go_wp2
    go_ret
    exact Ret.of (by (repeat (first | exact grow_refl _ | refine grow_ext _ ?_ | refine grow_alloc _ ?_ | refine grow_drew ?_)))
  rw [hlo] at R1
  have R2 := Lib.hid (fun w hl => choose_c l v m c w hl)
  have R3 := Lib.hid (fun w hl => fabValid_c l v w hl)
  have R4 := Lib.hid (fun w hl => refFabValid_c l v w hl)
  cases hv : fabsB l
  · have HR := Lib.hid (show chooseR l m c = (0, 1) by unfold chooseR; rw [hv]; rfl)
    rw [HR.out] at R2
    rw [hv] at R3 R4
    clear hl hlo hv
    go_enter Try.func8, Try.ntmps8
    go_wp2_with fail
    go_at_call 11; refine (fabAwake_c _).mono ?_; rintro e w' ⟨rfl, x0, rfl⟩
    go_wp2_with fail
    go_at_call 26; refine (R1.out _ (HL.out.below (by (repeat (first | exact grow_refl _ | refine grow_ext _ ?_ | refine grow_alloc _ ?_ | refine grow_drew ?_))))).mono ?_; rintro e w' ⟨rfl, x1, rfl⟩
    go_wp2_with fail
    go_at_call 27; refine (R2.out _ (HL.out.below (by (repeat (first | exact grow_refl _ | refine grow_ext _ ?_ | refine grow_alloc _ ?_ | refine grow_drew ?_))))).mono ?_; rintro e w' ⟨rfl, x2, rfl⟩
    go_wp2_with fail
    go_at_call 28; refine (R3.out _ (HL.out.below (by (repeat (first | exact grow_refl _ | refine grow_ext _ ?_ | refine grow_alloc _ ?_ | refine grow_drew ?_))))).mono ?_; rintro e w' ⟨rfl, x3, rfl⟩
    go_wp2_with fail
    go_at_call 29; refine (R4.out _ (HL.out.below (by (repeat (first | exact grow_refl _ | refine grow_ext _ ?_ | refine grow_alloc _ ?_ | refine grow_drew ?_))))).mono ?_; rintro e w' ⟨rfl, x4, rfl⟩
    go_wp2_with fail
    go_at_call 29; refine (R4.out _ (HL.out.below (by (repeat (first | exact grow_refl _ | refine grow_ext _ ?_ | refine grow_alloc _ ?_ | refine grow_drew ?_))))).mono ?_; rintro e w' ⟨rfl, x5, rfl⟩
    go_wp2
    go_ret
    exact Ret.of (by (repeat (first | exact grow_refl _ | refine grow_ext _ ?_ | refine grow_alloc _ ?_ | refine grow_drew ?_)))
  have R5 := Lib.hid (fun w hl => refChoose_c l v m c w hv hl)
  have HN := @chooseR_none l m c hv
  have HS := @chooseR_some l m c hv
  rw [hv] at R3 R4
  clear hl hlo hv
  cases hbest : chooseN l m c l.length with
  | none =>
    rw [hbest] at R5
    rw [HN hbest] at R2
    simp only [bestI] at R5
    clear hbest HN HS
    go_enter Try.func8, Try.ntmps8
    go_wp2_with fail
    go_at_call 11; refine (fabAwake_c _).mono ?_; rintro e w' ⟨rfl, x0, rfl⟩
    go_wp2_with fail
    go_at_call 26; refine (R1.out _ (HL.out.below (by (repeat (first | exact grow_refl _ | refine grow_ext _ ?_ | refine grow_alloc _ ?_ | refine grow_drew ?_))))).mono ?_; rintro e w' ⟨rfl, x1, rfl⟩
    go_wp2_with fail
    go_at_call 27; refine (R2.out _ (HL.out.below (by (repeat (first | exact grow_refl _ | refine grow_ext _ ?_ | refine grow_alloc _ ?_ | refine grow_drew ?_))))).mono ?_; rintro e w' ⟨rfl, x2, rfl⟩
    go_wp2_with fail
    go_at_call 28; refine (R3.out _ (HL.out.below (by (repeat (first | exact grow_refl _ | refine grow_ext _ ?_ | refine grow_alloc _ ?_ | refine grow_drew ?_))))).mono ?_; rintro e w' ⟨rfl, x3, rfl⟩
    go_wp2_with fail
    go_at_call 29; refine (R4.out _ (HL.out.below (by (repeat (first | exact grow_refl _ | refine grow_ext _ ?_ | refine grow_alloc _ ?_ | refine grow_drew ?_))))).mono ?_; rintro e w' ⟨rfl, x4, rfl⟩
    go_wp2_with fail
    go_at_call 29; refine (R4.out _ (HL.out.below (by (repeat (first | exact grow_refl _ | refine grow_ext _ ?_ | refine grow_alloc _ ?_ | refine grow_drew ?_))))).mono ?_; rintro e w' ⟨rfl, x5, rfl⟩
    go_wp2_with fail
    go_at_call 30; refine (R5.out _ (HL.out.below (by (repeat (first | exact grow_refl _ | refine grow_ext _ ?_ | refine grow_alloc _ ?_ | refine grow_drew ?_))))).mono ?_; rintro e w' ⟨rfl, x6, rfl⟩
    go_wp2
    go_ret
    exact Ret.of (by (repeat (first | exact grow_refl _ | refine grow_ext _ ?_ | refine grow_alloc _ ?_ | refine grow_drew ?_)))
  | some p =>
    obtain ⟨j, g⟩ := p
    rw [hbest] at R5
    rw [HS j g hbest] at R2
    simp only [bestI] at R5
    clear hbest HN HS
    dsimp only at R2 R5
    have i3 : decide ((j : Int) < 0) = false := by simp
    go_enter Try.func8, Try.ntmps8
    go_wp2_with fail
    go_at_call 11; refine (fabAwake_c _).mono ?_; rintro e w' ⟨rfl, x0, rfl⟩
    go_wp2_with fail
    go_at_call 26; refine (R1.out _ (HL.out.below (by (repeat (first | exact grow_refl _ | refine grow_ext _ ?_ | refine grow_alloc _ ?_ | refine grow_drew ?_))))).mono ?_; rintro e w' ⟨rfl, x1, rfl⟩
    go_wp2_with fail
    go_at_call 27; refine (R2.out _ (HL.out.below (by (repeat (first | exact grow_refl _ | refine grow_ext _ ?_ | refine grow_alloc _ ?_ | refine grow_drew ?_))))).mono ?_; rintro e w' ⟨rfl, x2, rfl⟩
    go_wp2_with fail
    go_at_call 28; refine (R3.out _ (HL.out.below (by (repeat (first | exact grow_refl _ | refine grow_ext _ ?_ | refine grow_alloc _ ?_ | refine grow_drew ?_))))).mono ?_; rintro e w' ⟨rfl, x3, rfl⟩
    go_wp2_with fail
    go_at_call 29; refine (R4.out _ (HL.out.below (by (repeat (first | exact grow_refl _ | refine grow_ext _ ?_ | refine grow_alloc _ ?_ | refine grow_drew ?_))))).mono ?_; rintro e w' ⟨rfl, x4, rfl⟩
    go_wp2_with fail
    go_at_call 29; refine (R4.out _ (HL.out.below (by (repeat (first | exact grow_refl _ | refine grow_ext _ ?_ | refine grow_alloc _ ?_ | refine grow_drew ?_))))).mono ?_; rintro e w' ⟨rfl, x5, rfl⟩
    go_wp2_with fail
    go_at_call 30; refine (R5.out _ (HL.out.below (by (repeat (first | exact grow_refl _ | refine grow_ext _ ?_ | refine grow_alloc _ ?_ | refine grow_drew ?_))))).mono ?_; rintro e w' ⟨rfl, x6, rfl⟩
    go_wp2
    go_ret
    exact Ret.of (by (repeat (first | exact grow_refl _ | refine grow_ext _ ?_ | refine grow_alloc _ ?_ | refine grow_drew ?_)))

end Go.Proofs.Ytolcpkpfndnkbaa

/- FabricSuffices: the walk of the law. -/
import Derived.Test.YtolcpkpfndnkbaaFabI
import Derived.Test.YtolcpkpfndnkbaaPlainT
import Derived.Test.YtolcpkpfndnkbaaDelB
import Derived.Deep.RegionHeld3
import Derived.IntWalk
import Derived.Test.YtolcpkpfndnkbaaLawForms0
namespace Go.Proofs.Ytolcpkpfndnkbaa
open Go.RowKit

theorem sheets_kinds {f : Fb} {L W lap : Int} (h : givenI f L W lap = 0) : sheetsR f L W lap = (0, 4) ∨ sheetsR f L W lap = (numI L f.length lap * numI W f.width lap, 0) := by
  unfold sheetsR
  rw [if_pos h]
  by_cases hm : 1000 < max (numI L f.length lap) (numI W f.width lap)
  · rw [if_pos hm]; exact .inl rfl
  · rw [if_neg hm]; exact .inr rfl
theorem cover_grid {f : Fb} {L W lap : Int} (he : (sheetsR f L W lap).2 = 0) (hn : (sheetsR f L W lap).1 ≤ 1000) : coverR f L W lap = (gridX (rowL L f.length lap) (rowL W f.width lap), 0) := by
  unfold coverR; rw [if_pos he, if_neg (by omega)]

set_option maxRecDepth 100000 in
set_option maxHeartbeats 4000000 in
theorem suff_ok (f : Fb) (L W lap : Int) (l : List Bx) (av : Option Addr) (cap : Nat) (k : Int) (hn : f.name.size ≤ 60) (hk : 0 ≤ k ∧ k ≤ 255) (w : World) (hl : Boxes w (.slice av l.length cap) l) (h12 : l.length ≤ 12) (hcap : l.length ≤ cap ∧ cap ≤ 9223372036854775807)
    (C : List Bx) (i : Nat) (hi : i < C.length) (hC : C.length ≤ 12) (r : Bool) (hr : r = true → C.length ≤ l.length) (hki : k.tmod (C.length : Int) = (i : Int))
    (H1 : ∀ w, Calls Try.prog 18 #[(.agg #[.string f.name, .int .i64 f.main, .int .i64 f.cross, .int .i64 f.length, .int .i64 f.width, .int .i64 f.mass]), .int .i64 L, .int .i64 W, .int .i64 lap] w (Ret w (.int .i64 0)))
    (H2 : ∀ w, Calls Try.prog 20 #[(.agg #[.string f.name, .int .i64 f.main, .int .i64 f.cross, .int .i64 f.length, .int .i64 f.width, .int .i64 f.mass]), .int .i64 L, .int .i64 W, .int .i64 lap] w (Ret w (.tuple #[.int .i64 (C.length : Int), .int .i64 0])))
    (H3 : ∀ w, Boxes w (.slice av l.length cap) l → Calls Try.prog 17 #[(.agg #[.string f.name, .int .i64 f.main, .int .i64 f.cross, .int .i64 f.length, .int .i64 f.width, .int .i64 f.mass]), .int .i64 L, .int .i64 W, .int .i64 lap, .slice av l.length cap] w (Ret w (.tuple #[.bool r, .int .i64 0])))
    (H4 : ∀ w, Calls Try.prog 22 #[(.agg #[.string f.name, .int .i64 f.main, .int .i64 f.cross, .int .i64 f.length, .int .i64 f.width, .int .i64 f.mass]), .int .i64 L, .int .i64 W, .int .i64 lap] w (RetOwnE w 52 6 C.length (boxCells C) 0))
    (H5 : ∀ w v, Boxes w v C → Calls Try.prog 17 #[(.agg #[.string f.name, .int .i64 f.main, .int .i64 f.cross, .int .i64 f.length, .int .i64 f.width, .int .i64 f.mass]), .int .i64 L, .int .i64 W, .int .i64 lap, v] w (Ret w (.tuple #[.bool true, .int .i64 0])))
    (H6 : ∀ w v l', l'.length = C.length - 1 → Boxes w v l' → Calls Try.prog 17 #[(.agg #[.string f.name, .int .i64 f.main, .int .i64 f.cross, .int .i64 f.length, .int .i64 f.width, .int .i64 f.mass]), .int .i64 L, .int .i64 W, .int .i64 lap, v] w (Ret w (.tuple #[.bool false, .int .i64 0]))) :
    Calls Try.prog 9 #[(.agg #[.string f.name, .int .i64 f.main, .int .i64 f.cross, .int .i64 f.length, .int .i64 f.width, .int .i64 f.mass]), .int .i64 L, .int .i64 W, .int .i64 lap, .slice av l.length cap, .int .u8 k] w (Ret w (.bool true)) := by
  have hd60 : decide ((60 : Int) < (f.name.size : Int)) = false := by simp; omega
  have d12 : decide ((12 : Int) < (l.length : Int)) = false := by simp; omega
  have n12 : decide ((12 : Int) < (C.length : Int)) = false := by simp; omega
  have hC0 : 0 < C.length := by omega
  have hpos : ((C.length : Int) == 0) = false := beq_false_of_ne (by omega)
  have hne : ¬ C = [] := by rintro rfl; simp at hi
  have HL := Lib.hid hl
  have R1 := Lib.hid H1
  have R2 := Lib.hid H2
  have R4 := Lib.hid H4
  have R5 := Lib.hid H5
  have R6 := Lib.hid H6
  have HI := Lib.hid hi
  clear hl H1 H2 H4 H5 H6
  cases r
  · have R3 := Lib.hid H3
    clear hr H3
    go_enter Try.func9, Try.ntmps9
    go_wp2_with fail
    go_at_call 11; refine (fabAwake_c _).mono ?_; rintro e w' ⟨rfl, x0, rfl⟩
    go_wp2_with fail
    go_at_call 18; refine (R1.out _).mono ?_; rintro e w' ⟨rfl, x1, rfl⟩
    go_wp2_with fail
    go_at_call 20; refine (R2.out _).mono ?_; rintro e w' ⟨rfl, x2, rfl⟩
    go_wp2_with fail
    go_at_call 17; refine (R3.out _ (HL.out.below (by (repeat (first | exact grow_refl _ | refine grow_ext _ ?_ | refine grow_alloc _ ?_ | refine grow_drew ?_))))).mono ?_; rintro e w' ⟨rfl, x3, rfl⟩
    go_wp2_with fail
    go_at_call 22; refine Calls.mono (R4.out _) ?_; rintro e w' ⟨v4, rfl, hown4, x4, rfl⟩
    have P4 := Lib.hid (Boxes.of_own hown4)
    obtain ⟨a4, cap4, rfl, q4, q5, q6⟩ := own_shape hown4
    clear hown4 q6
    go_wp2_with fail
    go_at_call 17; refine (R5.out _ _ (P4.out.below (by (repeat (first | exact grow_refl _ | refine grow_ext _ ?_ | refine grow_alloc _ ?_ | refine grow_drew ?_))))).mono ?_; rintro e w' ⟨rfl, x5, rfl⟩
    go_wp2_with fail
    refine world_mask (fun W => Below w.heap.size w W ∧ FbAt W w.heap.size 0 f ∧ Boxes W (.slice a4 C.length cap4) C) _ ?_ ?_
    · refine ⟨by (repeat (first | exact grow_refl _ | refine grow_ext _ ?_ | refine grow_alloc _ ?_ | refine grow_drew ?_)), by simp [FbAt, go_sem], P4.out.below (by (repeat (first | exact grow_refl _ | refine grow_ext _ ?_ | refine grow_alloc _ ?_ | refine grow_drew ?_)))⟩
    clear P4 q4 q5 HL R1 R2 R3 R4 R5
    rintro W2 ⟨hB, ⟨c0, c1, c2, c3, c4, c5⟩, hP⟩
    simp only [Nat.zero_add] at c1 c2 c3 c4 c5
    have HB2 := Lib.hid hB
    have P4 := Lib.hid hP
    clear hB hP
    have hi' := HI.out
    have hi2 : 0 ≤ (i : Int) + 1 := by omega
    have hi3 : ((i : Int) + 1).toNat = i + 1 := by omega
    have hsum : IntKind.i64.wrap ((i : Int) + 1) = (i : Int) + 1 := IntWalk.i64_in _ (by omega)
    go_region_held3 (fun w' => w'.cell? ⟨w.heap.size, 0, none⟩ = some (.string f.name) ∧ w'.cell? ⟨w.heap.size, 1, none⟩ = some (.int .i64 f.main) ∧ w'.cell? ⟨w.heap.size, 2, none⟩ = some (.int .i64 f.cross) ∧ w'.cell? ⟨w.heap.size, 3, none⟩ = some (.int .i64 f.length) ∧ w'.cell? ⟨w.heap.size, 4, none⟩ = some (.int .i64 f.width) ∧ w'.cell? ⟨w.heap.size, 5, none⟩ = some (.int .i64 f.mass)) (simp [go_sem, *])
      (first
        | (go_at_call 32; refine Calls.mono (clone_c C _ _ (P4.out.below (by (repeat (first | exact grow_refl _ | refine grow_ext _ ?_ | refine grow_alloc _ ?_ | refine grow_drew ?_)))) (by omega)) ?_; rintro e w' ⟨v6, rfl, hown6, x6, rfl⟩; try (rw [ext_drew] at hown6); have H6 := Lib.hid hown6; clear hown6)
        | (go_at_call 31; refine Calls.mono (delete_c C i HI.out v6 _ _ H6.out) ?_; rintro e w' ⟨l7, v7, rfl, hlen7, hb7, hbel7⟩; obtain ⟨x7, rfl⟩ := ext_of ((below_ext W2 x6).trans hbel7); have H7 := Lib.hid hlen7; have B7 := Lib.hid hb7; clear H6 hbel7 hlen7 hb7)
        | (go_at_call 17; refine Calls.mono (R6.out _ _ l7 H7.out B7.out) ?_; rintro e w' ⟨rfl, x8, rfl⟩; clear H7 B7))
    go_wp2
    go_ret
    exact Ret.of (by (repeat (first | exact grow_refl _ | exact HB2.out | refine grow_ext _ ?_ | refine grow_alloc _ ?_ | refine grow_drew ?_)))
  · have R3 := Lib.hid H3
    have hle := hr rfl
    have d5 : decide (l.length < C.length) = false := by simp; omega
    have d6 : decide ((l.length : Int) < (C.length : Int)) = false := by simp; omega
    clear hr H3 hle
    go_enter Try.func9, Try.ntmps9
    go_wp2_with fail
    go_at_call 11; refine (fabAwake_c _).mono ?_; rintro e w' ⟨rfl, x0, rfl⟩
    go_wp2_with fail
    go_at_call 18; refine (R1.out _).mono ?_; rintro e w' ⟨rfl, x1, rfl⟩
    go_wp2_with fail
    go_at_call 20; refine (R2.out _).mono ?_; rintro e w' ⟨rfl, x2, rfl⟩
    go_wp2_with fail
    go_at_call 17; refine (R3.out _ (HL.out.below (by (repeat (first | exact grow_refl _ | refine grow_ext _ ?_ | refine grow_alloc _ ?_ | refine grow_drew ?_))))).mono ?_; rintro e w' ⟨rfl, x3, rfl⟩
    go_wp2_with fail
    go_at_call 22; refine Calls.mono (R4.out _) ?_; rintro e w' ⟨v4, rfl, hown4, x4, rfl⟩
    have P4 := Lib.hid (Boxes.of_own hown4)
    obtain ⟨a4, cap4, rfl, q4, q5, q6⟩ := own_shape hown4
    clear hown4 q6
    go_wp2_with fail
    go_at_call 17; refine (R5.out _ _ (P4.out.below (by (repeat (first | exact grow_refl _ | refine grow_ext _ ?_ | refine grow_alloc _ ?_ | refine grow_drew ?_))))).mono ?_; rintro e w' ⟨rfl, x5, rfl⟩
    go_wp2_with fail
    refine world_mask (fun W => Below w.heap.size w W ∧ FbAt W w.heap.size 0 f ∧ Boxes W (.slice a4 C.length cap4) C) _ ?_ ?_
    · refine ⟨by (repeat (first | exact grow_refl _ | refine grow_ext _ ?_ | refine grow_alloc _ ?_ | refine grow_drew ?_)), by simp [FbAt, go_sem], P4.out.below (by (repeat (first | exact grow_refl _ | refine grow_ext _ ?_ | refine grow_alloc _ ?_ | refine grow_drew ?_)))⟩
    clear P4 q4 q5 HL R1 R2 R3 R4 R5
    rintro W2 ⟨hB, ⟨c0, c1, c2, c3, c4, c5⟩, hP⟩
    simp only [Nat.zero_add] at c1 c2 c3 c4 c5
    have HB2 := Lib.hid hB
    have P4 := Lib.hid hP
    clear hB hP
    have hi' := HI.out
    have hi2 : 0 ≤ (i : Int) + 1 := by omega
    have hi3 : ((i : Int) + 1).toNat = i + 1 := by omega
    have hsum : IntKind.i64.wrap ((i : Int) + 1) = (i : Int) + 1 := IntWalk.i64_in _ (by omega)
    go_region_held3 (fun w' => w'.cell? ⟨w.heap.size, 0, none⟩ = some (.string f.name) ∧ w'.cell? ⟨w.heap.size, 1, none⟩ = some (.int .i64 f.main) ∧ w'.cell? ⟨w.heap.size, 2, none⟩ = some (.int .i64 f.cross) ∧ w'.cell? ⟨w.heap.size, 3, none⟩ = some (.int .i64 f.length) ∧ w'.cell? ⟨w.heap.size, 4, none⟩ = some (.int .i64 f.width) ∧ w'.cell? ⟨w.heap.size, 5, none⟩ = some (.int .i64 f.mass)) (simp [go_sem, *])
      (first
        | (go_at_call 32; refine Calls.mono (clone_c C _ _ (P4.out.below (by (repeat (first | exact grow_refl _ | refine grow_ext _ ?_ | refine grow_alloc _ ?_ | refine grow_drew ?_)))) (by omega)) ?_; rintro e w' ⟨v6, rfl, hown6, x6, rfl⟩; try (rw [ext_drew] at hown6); have H6 := Lib.hid hown6; clear hown6)
        | (go_at_call 31; refine Calls.mono (delete_c C i HI.out v6 _ _ H6.out) ?_; rintro e w' ⟨l7, v7, rfl, hlen7, hb7, hbel7⟩; obtain ⟨x7, rfl⟩ := ext_of ((below_ext W2 x6).trans hbel7); have H7 := Lib.hid hlen7; have B7 := Lib.hid hb7; clear H6 hbel7 hlen7 hb7)
        | (go_at_call 17; refine Calls.mono (R6.out _ _ l7 H7.out B7.out) ?_; rintro e w' ⟨rfl, x8, rfl⟩; clear H7 B7))
    go_wp2
    go_ret
    exact Ret.of (by (repeat (first | exact grow_refl _ | exact HB2.out | refine grow_ext _ ?_ | refine grow_alloc _ ?_ | refine grow_drew ?_)))

theorem tmod_nat {k : Int} {n : Nat} (hk : 0 ≤ k) (hn : 0 < n) : k.tmod (n : Int) = (((k % (n : Int)).toNat : Nat) : Int) ∧ (k % (n : Int)).toNat < n := by
  have h1 := Int.emod_nonneg k (b := (n : Int)) (by omega)
  have h2 := Int.emod_lt_of_pos k (b := (n : Int)) (by omega)
  rw [Int.tmod_eq_emod_of_nonneg hk]
  omega

set_option maxRecDepth 100000 in
set_option maxHeartbeats 2000000 in
theorem suff_guard (f : Fb) (L W lap : Int) (l : List Bx) (av : Option Addr) (cap : Nat) (k : Int) (hn : f.name.size ≤ 9223372036854775807) (w : World) (hcap : l.length ≤ cap ∧ cap ≤ 9223372036854775807) (h : 60 < f.name.size ∨ 12 < l.length ∨ ¬ givenI f L W lap = 0) :
    Calls Try.prog 9 #[(.agg #[.string f.name, .int .i64 f.main, .int .i64 f.cross, .int .i64 f.length, .int .i64 f.width, .int .i64 f.mass]), .int .i64 L, .int .i64 W, .int .i64 lap, .slice av l.length cap, .int .u8 k] w (Ret w (.bool true)) := by
  by_cases h1 : 60 < f.name.size
  · have d1 : decide ((60 : Int) < (f.name.size : Int)) = true := by simp; omega
    clear h
    go_enter Try.func9, Try.ntmps9
    go_wp2_with fail
    go_at_call 11; refine (fabAwake_c _).mono ?_; rintro e w' ⟨rfl, x0, rfl⟩
    go_wp2
    go_ret
    exact Ret.of (by (repeat (first | exact grow_refl _ | refine grow_ext _ ?_ | refine grow_alloc _ ?_ | refine grow_drew ?_)))
  have d1 : decide ((60 : Int) < (f.name.size : Int)) = false := by simp; omega
  by_cases h2 : 12 < l.length
  · have d2 : decide ((12 : Int) < (l.length : Int)) = true := by simp; omega
    clear h
    go_enter Try.func9, Try.ntmps9
    go_wp2_with fail
    go_at_call 11; refine (fabAwake_c _).mono ?_; rintro e w' ⟨rfl, x0, rfl⟩
    go_wp2
    go_ret
    exact Ret.of (by (repeat (first | exact grow_refl _ | refine grow_ext _ ?_ | refine grow_alloc _ ?_ | refine grow_drew ?_)))
  have d2 : decide ((12 : Int) < (l.length : Int)) = false := by simp; omega
  have hg : ¬ givenI f L W lap = 0 := by rcases h with h | h | h <;> first | omega | exact h
  have HGC := Lib.hid (fun w => refGiven_c f L W lap hn w)
  clear h
  generalize givenI f L W lap = e0 at *
  have hb : (e0 == 0) = false := by simpa using hg
  go_enter Try.func9, Try.ntmps9
  go_wp2_with fail
  go_at_call 11; refine (fabAwake_c _).mono ?_; rintro e w' ⟨rfl, x0, rfl⟩
  go_wp2_with fail
  go_at_call 18; refine (HGC.out _).mono ?_; rintro e w' ⟨rfl, x1, rfl⟩
  go_wp2
  go_ret
  exact Ret.of (by (repeat (first | exact grow_refl _ | refine grow_ext _ ?_ | refine grow_alloc _ ?_ | refine grow_drew ?_)))

set_option maxRecDepth 100000 in
set_option maxHeartbeats 2000000 in
theorem suff_full (f : Fb) (L W lap : Int) (l : List Bx) (av : Option Addr) (cap : Nat) (k : Int) (hn : f.name.size ≤ 60) (w : World) (h12 : l.length ≤ 12) (hcap : l.length ≤ cap ∧ cap ≤ 9223372036854775807)
    (H1 : ∀ w, Calls Try.prog 18 #[(.agg #[.string f.name, .int .i64 f.main, .int .i64 f.cross, .int .i64 f.length, .int .i64 f.width, .int .i64 f.mass]), .int .i64 L, .int .i64 W, .int .i64 lap] w (Ret w (.int .i64 0)))
    (H2 : ∀ w, Calls Try.prog 20 #[(.agg #[.string f.name, .int .i64 f.main, .int .i64 f.cross, .int .i64 f.length, .int .i64 f.width, .int .i64 f.mass]), .int .i64 L, .int .i64 W, .int .i64 lap] w (Ret w (.tuple #[.int .i64 0, .int .i64 4]))) :
    Calls Try.prog 9 #[(.agg #[.string f.name, .int .i64 f.main, .int .i64 f.cross, .int .i64 f.length, .int .i64 f.width, .int .i64 f.mass]), .int .i64 L, .int .i64 W, .int .i64 lap, .slice av l.length cap, .int .u8 k] w (Ret w (.bool true)) := by
  have hd60 : decide ((60 : Int) < (f.name.size : Int)) = false := by simp; omega
  have d12 : decide ((12 : Int) < (l.length : Int)) = false := by simp; omega
  have R1 := Lib.hid H1
  have R2 := Lib.hid H2
  clear H1 H2
  go_enter Try.func9, Try.ntmps9
  go_wp2_with fail
  go_at_call 11; refine (fabAwake_c _).mono ?_; rintro e w' ⟨rfl, x0, rfl⟩
  go_wp2_with fail
  go_at_call 18; refine (R1.out _).mono ?_; rintro e w' ⟨rfl, x1, rfl⟩
  go_wp2_with fail
  go_at_call 20; refine (R2.out _).mono ?_; rintro e w' ⟨rfl, x2, rfl⟩
  go_wp2
  go_ret
  exact Ret.of (by (repeat (first | exact grow_refl _ | refine grow_ext _ ?_ | refine grow_alloc _ ?_ | refine grow_drew ?_)))

set_option maxRecDepth 100000 in
set_option maxHeartbeats 2000000 in
theorem suff_many (f : Fb) (L W lap n : Int) (l : List Bx) (av : Option Addr) (cap : Nat) (k : Int) (hn : f.name.size ≤ 60) (w : World) (hl : Boxes w (.slice av l.length cap) l) (h12 : l.length ≤ 12) (hcap : l.length ≤ cap ∧ cap ≤ 9223372036854775807) (hn12 : 12 < n)
    (H1 : ∀ w, Calls Try.prog 18 #[(.agg #[.string f.name, .int .i64 f.main, .int .i64 f.cross, .int .i64 f.length, .int .i64 f.width, .int .i64 f.mass]), .int .i64 L, .int .i64 W, .int .i64 lap] w (Ret w (.int .i64 0)))
    (H2 : ∀ w, Calls Try.prog 20 #[(.agg #[.string f.name, .int .i64 f.main, .int .i64 f.cross, .int .i64 f.length, .int .i64 f.width, .int .i64 f.mass]), .int .i64 L, .int .i64 W, .int .i64 lap] w (Ret w (.tuple #[.int .i64 n, .int .i64 0])))
    (H3 : ∀ w, Boxes w (.slice av l.length cap) l → Calls Try.prog 17 #[(.agg #[.string f.name, .int .i64 f.main, .int .i64 f.cross, .int .i64 f.length, .int .i64 f.width, .int .i64 f.mass]), .int .i64 L, .int .i64 W, .int .i64 lap, .slice av l.length cap] w (Ret w (.tuple #[.bool false, .int .i64 0]))) :
    Calls Try.prog 9 #[(.agg #[.string f.name, .int .i64 f.main, .int .i64 f.cross, .int .i64 f.length, .int .i64 f.width, .int .i64 f.mass]), .int .i64 L, .int .i64 W, .int .i64 lap, .slice av l.length cap, .int .u8 k] w (Ret w (.bool true)) := by
  have hd60 : decide ((60 : Int) < (f.name.size : Int)) = false := by simp; omega
  have d12 : decide ((12 : Int) < (l.length : Int)) = false := by simp; omega
  have dn : decide (12 < n) = true := by simp; omega
  have HL := Lib.hid hl
  have R1 := Lib.hid H1
  have R2 := Lib.hid H2
  have R3 := Lib.hid H3
  clear hl H1 H2 H3
  go_enter Try.func9, Try.ntmps9
  go_wp2_with fail
  go_at_call 11; refine (fabAwake_c _).mono ?_; rintro e w' ⟨rfl, x0, rfl⟩
  go_wp2_with fail
  go_at_call 18; refine (R1.out _).mono ?_; rintro e w' ⟨rfl, x1, rfl⟩
  go_wp2_with fail
  go_at_call 20; refine (R2.out _).mono ?_; rintro e w' ⟨rfl, x2, rfl⟩
  go_wp2_with fail
  go_at_call 17; refine (R3.out _ (HL.out.below (by (repeat (first | exact grow_refl _ | refine grow_ext _ ?_ | refine grow_alloc _ ?_ | refine grow_drew ?_))))).mono ?_; rintro e w' ⟨rfl, x3, rfl⟩
  go_wp2
  go_ret
  exact Ret.of (by (repeat (first | exact grow_refl _ | refine grow_ext _ ?_ | refine grow_alloc _ ?_ | refine grow_drew ?_)))

theorem lawFabricSuffices_c (f : Fb) (L W lap : Int) (l : List Bx) (v : Value) (k : Int) (hn : f.name.size ≤ 9223372036854775807) (_ : -9223372036854775808 ≤ L ∧ L ≤ 9223372036854775807) (_ : -9223372036854775808 ≤ W ∧ W ≤ 9223372036854775807) (_ : -9223372036854775808 ≤ lap ∧ lap ≤ 9223372036854775807) (hk : 0 ≤ k ∧ k ≤ 255) (w : World) (hl : Boxes w v l) :
    Calls Try.prog 9 #[(.agg #[.string f.name, .int .i64 f.main, .int .i64 f.cross, .int .i64 f.length, .int .i64 f.width, .int .i64 f.mass]), .int .i64 L, .int .i64 W, .int .i64 lap, v, .int .u8 k] w (Ret w (.bool true)) := by
  obtain ⟨av, cap, rfl, hcap, hcap2, _⟩ := hl.shape
  by_cases hgd : 60 < f.name.size ∨ 12 < l.length ∨ ¬ givenI f L W lap = 0
  · exact suff_guard f L W lap l av cap k hn w ⟨hcap, hcap2⟩ hgd
  have hg : givenI f L W lap = 0 := Decidable.byContradiction fun h => hgd (.inr (.inr h))
  have h60 : f.name.size ≤ 60 := by omega
  have h12 : l.length ≤ 12 := by omega
  have G1 : ∀ w, Calls Try.prog 18 #[(.agg #[.string f.name, .int .i64 f.main, .int .i64 f.cross, .int .i64 f.length, .int .i64 f.width, .int .i64 f.mass]), .int .i64 L, .int .i64 W, .int .i64 lap] w (Ret w (.int .i64 0)) := fun w => by
    have := refGiven_c f L W lap hn w
    rwa [hg] at this
  have S1 := fun w => sheets_c f L W lap hn w
  have hfew := check_few (L := L) (W := W) (lap := lap) hg h12
  rcases sheets_kinds hg with hs | hs
  · rw [hs] at S1
    exact suff_full f L W lap l av cap k h60 w h12 ⟨hcap, hcap2⟩ G1 S1
  rw [hs] at S1
  dsimp only at S1
  by_cases hn12 : 12 < numI L f.length lap * numI W f.width lap
  · refine suff_many f L W lap _ l av cap k h60 w hl h12 ⟨hcap, hcap2⟩ hn12 G1 S1 fun w hw => ?_
    have := check_c f L W lap l _ hn w hw
    rw [hfew.1] at this
    cases hr : (checkR f L W lap l).1
    · rwa [hr] at this
    · have := hfew.2 hr; omega
  · have hlen := grid_length hg
    generalize hC : gridX (rowL L f.length lap) (rowL W f.width lap) = C at hlen
    have hpos := sheets_ok (f := f) (L := L) (W := W) (lap := lap) (by rw [hs])
    rw [hs] at hpos
    dsimp only at hpos
    have hC0 : 0 < C.length := by omega
    rw [← hlen] at S1
    obtain ⟨e1, e2⟩ := tmod_nat hk.1 hC0
    refine suff_ok f L W lap l av cap k h60 hk w hl h12 ⟨hcap, hcap2⟩ C _ e2 (by omega) (checkR f L W lap l).1 (fun hr => by have := hfew.2 hr; omega) e1 G1 S1 (fun w hw => ?_) (fun w => ?_) (fun w v hw => ?_) (fun w v l' hl' hw => ?_)
    · have := check_c f L W lap l _ hn w hw
      rwa [hfew.1] at this
    · have := cover_c f L W lap hn w
      rw [cover_grid (by rw [hs]) (by rw [hs]; dsimp only; omega), hC] at this
      exact this
    · have := check_c f L W lap C v hn w hw
      have e := check_grid (L := L) (W := W) (lap := lap) hg (by omega)
      rw [hC] at e
      rwa [e] at this
    · have h2 := check_few (L := L) (W := W) (lap := lap) hg (l := l') (by omega)
      have := check_c f L W lap l' v hn w hw
      rw [h2.1] at this
      cases hr : (checkR f L W lap l').1
      · rwa [hr] at this
      · have := h2.2 hr; omega

end Go.Proofs.Ytolcpkpfndnkbaa

/- FabricLightest: the walk of the law. -/
import Derived.Test.YtolcpkpfndnkbaaFabI
import Derived.Test.YtolcpkpfndnkbaaCloneF
import Derived.Test.YtolcpkpfndnkbaaLawChooses
import Derived.Deep.RegionHeld3
import Derived.RegionTactic
import Derived.Test.YtolcpkpfndnkbaaLawForms0
namespace Go.Proofs.Ytolcpkpfndnkbaa
open Go.RowKit

theorem cells_new_extL {w y : World} {g : Nat} (hg : g = w.heap.size) (cs : Array Value) (t : TypeId) (xs : List Value) (hx : cs.toList = xs) : ∀ j u, xs[j]? = some u → (ext (w.alloc (.cells cs t)) y).cell? ((⟨g, 0, none⟩ : Addr).add j) = some u :=
  fun j u hj => cell_ext_some (cells_new hg cs t xs hx j u hj) y

theorem any_has {l : List Fb} {m c : Int} (h : chooseN l m c l.length = none) : (l.any fun f => hasB f m c) = false := by
  rw [List.any_eq_false]
  intro f hf
  obtain ⟨i, hi, rfl⟩ := List.getElem_of_mem hf
  rw [choose_none (Nat.le_refl _) h i hi]; simp

set_option maxRecDepth 100000 in
set_option maxHeartbeats 2000000 in
theorem light_none (l : List Fb) (v : Value) (m c : Int) (f : Fb) (hn : f.name.size ≤ 9223372036854775807) (w : World) (hl : Fabs w v l) (hlo : longB l = false) (hlen : l.length ≤ 8) (hle : longB [f] = false) (hv : fabsB l = true) (hbest : chooseN l m c l.length = none) :
    Calls Try.prog 10 #[v, .int .i64 m, .int .i64 c, (.agg #[.string f.name, .int .i64 f.main, .int .i64 f.cross, .int .i64 f.length, .int .i64 f.width, .int .i64 f.mass])] w (Ret w (.bool true)) := by
  obtain ⟨av, cap, rfl, hcap, hcap2, _⟩ := hl.shape
  have HL := Lib.hid hl
  have R1 := Lib.hid (fun w hl => long_c l (.slice av l.length cap) w hl)
  have R2 := Lib.hid (fun v w hl => long_c [f] v w hl)
  have R3 := Lib.hid (fun w hl => refFabValid_c l (.slice av l.length cap) w hl)
  have R4 := Lib.hid (fun w hl => choose_c l (.slice av l.length cap) m c w hl)
  have HA := Lib.hid (any_has hbest)
  rw [chooseR_none hv hbest] at R4
  rw [hlo] at R1
  rw [hle] at R2
  rw [hv] at R3
  have d8 : decide ((8 : Int) < (l.length : Int)) = false := by simp; omega
  have HN := Lib.hid hn
  clear hl hlo hle hv hbest hn
  go_enter Try.func10, Try.ntmps10
  go_wp2_with fail
  go_at_call 11; refine (fabAwake_c _).mono ?_; rintro e w' ⟨rfl, x0, rfl⟩
  go_wp2_with fail
  go_at_call 26; refine Calls.mono (R1.out _ (HL.out.below (by (repeat (first | exact grow_refl _ | refine grow_ext _ ?_ | refine grow_alloc _ ?_ | refine grow_drew ?_))))) ?_; rintro e w' ⟨rfl, x1, rfl⟩
  go_wp2_with fail
  go_at_call 26; refine Calls.mono (R2.out _ _ (fabCells_own f HN.out _ (by simp [size_ext]))) ?_; rintro e w' ⟨rfl, x2, rfl⟩
  go_wp2_with fail
  go_at_call 29; refine (R3.out _ (HL.out.below (by (repeat (first | exact grow_refl _ | refine grow_ext _ ?_ | refine grow_alloc _ ?_ | refine grow_drew ?_))))).mono ?_; rintro e w' ⟨rfl, x3, rfl⟩
  go_wp2_with fail
  go_at_call 27; refine (R4.out _ (HL.out.below (by (repeat (first | exact grow_refl _ | refine grow_ext _ ?_ | refine grow_alloc _ ?_ | refine grow_drew ?_))))).mono ?_; rintro e w' ⟨rfl, x4, rfl⟩
  go_wp2_with fail
  go_at_call 35
  refine Calls.mono (containsFabs_c 33 enters_has1 #[.pointer (some ⟨w.heap.size, 0, none⟩), .pointer (some ⟨w.heap.size + 1, 0, none⟩)] (fun f => hasB f m c) l _ _ (HL.out.below (by (repeat (first | exact grow_refl _ | refine grow_ext _ ?_ | refine grow_alloc _ ?_ | refine grow_drew ?_)))) (fun b y _ => has1_c b m c w.heap.size (w.heap.size + 1) _ (by simp [go_sem]) (by simp [go_sem]))) ?_
  rintro e w' ⟨rfl, x5, rfl⟩
  rw [HA.out]
  go_wp2
  go_ret
  exact Ret.of (by (repeat (first | exact grow_refl _ | refine grow_ext _ ?_ | refine grow_alloc _ ?_ | refine grow_drew ?_)))

set_option maxRecDepth 100000 in
set_option maxHeartbeats 2000000 in
theorem light_guard (l : List Fb) (v : Value) (m c : Int) (f : Fb) (hn : f.name.size ≤ 9223372036854775807) (w : World) (hl : Fabs w v l) (h : longB l = true ∨ 8 < l.length ∨ longB [f] = true ∨ fabsB l = false) :
    Calls Try.prog 10 #[v, .int .i64 m, .int .i64 c, (.agg #[.string f.name, .int .i64 f.main, .int .i64 f.cross, .int .i64 f.length, .int .i64 f.width, .int .i64 f.mass])] w (Ret w (.bool true)) := by
  obtain ⟨av, cap, rfl, hcap, hcap2, _⟩ := hl.shape
  have HL := Lib.hid hl
  have R1 := Lib.hid (fun w hl => long_c l (.slice av l.length cap) w hl)
  have R2 := Lib.hid (fun v w hl => long_c [f] v w hl)
  have R3 := Lib.hid (fun w hl => refFabValid_c l (.slice av l.length cap) w hl)
  have HN := Lib.hid hn
  clear hl hn
  cases hlo : longB l
  case true =>
    rw [hlo] at R1
    clear hlo h
    go_enter Try.func10, Try.ntmps10
    go_wp2_with fail
    go_at_call 11; refine (fabAwake_c _).mono ?_; rintro e w' ⟨rfl, x0, rfl⟩
    go_wp2_with fail
    go_at_call 26; refine (R1.out _ (HL.out.below (by (repeat (first | exact grow_refl _ | refine grow_ext _ ?_ | refine grow_alloc _ ?_ | refine grow_drew ?_))))).mono ?_; rintro e w' ⟨rfl, x1, rfl⟩
    go_wp2
    go_ret
    exact Ret.of (by (repeat (first | exact grow_refl _ | refine grow_ext _ ?_ | refine grow_alloc _ ?_ | refine grow_drew ?_)))
  rw [hlo] at R1
  by_cases hlen : 8 < l.length
  · have d8 : decide ((8 : Int) < (l.length : Int)) = true := by simp; omega
    clear hlo h
    go_enter Try.func10, Try.ntmps10
    go_wp2_with fail
    go_at_call 11; refine (fabAwake_c _).mono ?_; rintro e w' ⟨rfl, x0, rfl⟩
    go_wp2_with fail
    go_at_call 26; refine (R1.out _ (HL.out.below (by (repeat (first | exact grow_refl _ | refine grow_ext _ ?_ | refine grow_alloc _ ?_ | refine grow_drew ?_))))).mono ?_; rintro e w' ⟨rfl, x1, rfl⟩
    go_wp2
    go_ret
    exact Ret.of (by (repeat (first | exact grow_refl _ | refine grow_ext _ ?_ | refine grow_alloc _ ?_ | refine grow_drew ?_)))
  have d8 : decide ((8 : Int) < (l.length : Int)) = false := by simp; omega
  cases hle : longB [f]
  case true =>
    rw [hle] at R2
    clear hlo h hle
    go_enter Try.func10, Try.ntmps10
    go_wp2_with fail
    go_at_call 11; refine (fabAwake_c _).mono ?_; rintro e w' ⟨rfl, x0, rfl⟩
    go_wp2_with fail
    go_at_call 26; refine Calls.mono (R1.out _ (HL.out.below (by (repeat (first | exact grow_refl _ | refine grow_ext _ ?_ | refine grow_alloc _ ?_ | refine grow_drew ?_))))) ?_; rintro e w' ⟨rfl, x1, rfl⟩
    go_wp2_with fail
    go_at_call 26; refine Calls.mono (R2.out _ _ (fabCells_own f HN.out _ (by simp [size_ext]))) ?_; rintro e w' ⟨rfl, x2, rfl⟩
    go_wp2
    go_ret
    exact Ret.of (by (repeat (first | exact grow_refl _ | refine grow_ext _ ?_ | refine grow_alloc _ ?_ | refine grow_drew ?_)))
  rw [hle] at R2
  have hv : fabsB l = false := by
    rcases h with h | h | h | h
    · rw [h] at hlo; cases hlo
    · omega
    · rw [h] at hle; cases hle
    · exact h
  rw [hv] at R3
  clear hlo h hle hv
  go_enter Try.func10, Try.ntmps10
  go_wp2_with fail
  go_at_call 11; refine (fabAwake_c _).mono ?_; rintro e w' ⟨rfl, x0, rfl⟩
  go_wp2_with fail
  go_at_call 26; refine Calls.mono (R1.out _ (HL.out.below (by (repeat (first | exact grow_refl _ | refine grow_ext _ ?_ | refine grow_alloc _ ?_ | refine grow_drew ?_))))) ?_; rintro e w' ⟨rfl, x1, rfl⟩
  go_wp2_with fail
  go_at_call 26; refine Calls.mono (R2.out _ _ (fabCells_own f HN.out _ (by simp [size_ext]))) ?_; rintro e w' ⟨rfl, x2, rfl⟩
  go_wp2_with fail
  go_at_call 29; refine (R3.out _ (HL.out.below (by (repeat (first | exact grow_refl _ | refine grow_ext _ ?_ | refine grow_alloc _ ?_ | refine grow_drew ?_))))).mono ?_; rintro e w' ⟨rfl, x3, rfl⟩
  go_wp2
  go_ret
  exact Ret.of (by (repeat (first | exact grow_refl _ | refine grow_ext _ ?_ | refine grow_alloc _ ?_ | refine grow_drew ?_)))

set_option maxRecDepth 100000 in
set_option maxHeartbeats 4000000 in
theorem light_some (l : List Fb) (v : Value) (m c : Int) (f : Fb) (hn : f.name.size ≤ 9223372036854775807) (w : World) (hl : Fabs w v l) (hlo : longB l = false) (hlen : l.length ≤ 8) (hle : longB [f] = false) (hv : fabsB l = true) (j : Nat) (g : Fb) (hbest : chooseN l m c l.length = some (j, g)) :
    Calls Try.prog 10 #[v, .int .i64 m, .int .i64 c, (.agg #[.string f.name, .int .i64 f.main, .int .i64 f.cross, .int .i64 f.length, .int .i64 f.width, .int .i64 f.mass])] w (Ret w (.bool true)) := by
  obtain ⟨av, cap, rfl, hcap, hcap2, hcell⟩ := hl.shape
  have HL := Lib.hid hl
  have HC := Lib.hid hcell
  have R1 := Lib.hid (fun w hl => long_c l (.slice av l.length cap) w hl)
  have R2 := Lib.hid (fun v w hl => long_c [f] v w hl)
  have R3 := Lib.hid (fun w hl => refFabValid_c l (.slice av l.length cap) w hl)
  have R4 := Lib.hid (fun w hl => choose_c l (.slice av l.length cap) m c w hl)
  rw [chooseR_some hv j g hbest] at R4
  rw [hlo] at R1
  rw [hle] at R2
  rw [hv] at R3
  dsimp only at R4
  have d8 : decide ((8 : Int) < (l.length : Int)) = false := by simp; omega
  have i0 : decide ((j : Int) < 0) = false := by simp
  obtain ⟨hjl, hjg, hjh⟩ := choose_in (Nat.le_refl _) hbest
  rw [List.getElem?_eq_getElem hjl] at hjg
  have hjg : l[j] = g := by injection hjg
  have hgk : fbOk g = true := by rw [← hjg]; exact fabs_mem hv hjl
  have i1 : (0 : Int) ≤ (j : Int) := by omega
  have i2 : (j : Int) < (l.length : Int) := by omega
  have i3 : decide ((l.length : Int) ≤ (j : Int)) = false := by simp; omega
  obtain ⟨_, b1, off1, e1, d0, d1, d2, d3, d4, d5⟩ := hcell j hjl
  subst e1
  rw [hjg] at d0 d1 d2 d3 d4 d5
  have HN := Lib.hid hn
  have HLEAST := Lib.hid (fun i hi => choose_least hv (Nat.le_refl _) hbest i hi)
  have HX := Lib.hid (choose_extra (e := f) hbest)
  have HV := Lib.hid hv
  have HH := Lib.hid hjh
  have HG := Lib.hid hgk
  have HJ := Lib.hid hjg
  clear hl hlo hle hv hbest hn hjg hjh hcell hgk
  go_enter Try.func10, Try.ntmps10
  go_wp2_with fail
  go_at_call 11; refine (fabAwake_c _).mono ?_; rintro e w' ⟨rfl, x0, rfl⟩
  go_wp2_with fail
  go_at_call 26; refine Calls.mono (R1.out _ (HL.out.below (by (repeat (first | exact grow_refl _ | refine grow_ext _ ?_ | refine grow_alloc _ ?_ | refine grow_drew ?_))))) ?_; rintro e w' ⟨rfl, x1, rfl⟩
  go_wp2_with fail
  go_at_call 26; refine Calls.mono (R2.out _ _ (fabCells_own f HN.out _ (by simp [size_ext]))) ?_; rintro e w' ⟨rfl, x2, rfl⟩
  go_wp2_with fail
  go_at_call 29; refine (R3.out _ (HL.out.below (by (repeat (first | exact grow_refl _ | refine grow_ext _ ?_ | refine grow_alloc _ ?_ | refine grow_drew ?_))))).mono ?_; rintro e w' ⟨rfl, x3, rfl⟩
  go_wp2_with fail
  go_at_call 27; refine (R4.out _ (HL.out.below (by (repeat (first | exact grow_refl _ | refine grow_ext _ ?_ | refine grow_alloc _ ?_ | refine grow_drew ?_))))).mono ?_; rintro e w' ⟨rfl, x4, rfl⟩
  go_wp2_with fail
  go_at_call 33; refine Calls.mono (has1_c g m c w.heap.size (w.heap.size + 1) _ (by simp [go_sem]) (by simp [go_sem])) ?_; rintro e w' ⟨rfl, x5, rfl⟩
  rw [HH.out]
  go_wp2_with fail
  refine world_mask (fun W => Below w.heap.size w W ∧ W.cell? ⟨w.heap.size, 0, none⟩ = some (.int .i64 m) ∧ W.cell? ⟨w.heap.size + 1, 0, none⟩ = some (.int .i64 c) ∧ FbAt W (w.heap.size + 1 + 1) 0 f) _ ?_ ?_
  · exact ⟨by (repeat (first | exact grow_refl _ | refine grow_ext _ ?_ | refine grow_alloc _ ?_ | refine grow_drew ?_)), by simp [go_sem], by simp [go_sem], by simp [FbAt, go_sem]⟩
  rintro W2 ⟨hB, k0, k1, ⟨n0, n1, n2, n3, n4, n5⟩⟩
  simp only [Nat.zero_add] at n1 n2 n3 n4 n5
  have HB2 := Lib.hid hB
  have L2 := Lib.hid (HL.out.below hB)
  obtain ⟨_, _, he, _, _, hcell2⟩ := L2.out.shape
  cases he
  have HC2 := Lib.hid hcell2
  obtain ⟨_, b2, off2, e2, m0, m1, m2, m3, m4, m5⟩ := hcell2 j hjl
  cases e2
  rw [HJ.out] at m0 m1 m2 m3 m4 m5
  clear d0 d1 d2 d3 d4 d5 R1 R2 R3 R4 hB hcell2 HC
  go_loopw [74] (fun i wr => ∃ q : Nat, q ≤ l.length ∧ i = .int .i64 q ∧ ∃ x, wr = ext W2 x) (fun i _ => l.length - (intOf i).toNat)
  case atStart => exact ⟨0, Nat.zero_le _, rfl, ext_refl _⟩
  case round =>
    obtain ⟨q, hq, rfl, x, rfl⟩ := hrel
    by_cases hlt : q < l.length
    · obtain ⟨hns, b0, off, e0, s0, s1, s2, s3, s4, s5⟩ := HC2.out q hlt
      cases e0
      have HLE := Lib.hid (HLEAST.out q hlt)
      have HOK := Lib.hid (fabs_mem HV.out hlt)
      obtain ⟨h, hh⟩ : ∃ h, h = l[q] := ⟨_, rfl⟩
      rw [← hh] at hns s0 s1 s2 s3 s4 s5 HLE HOK
      clear hh
      cases hb : hasB h m c
      · have HBV := Lib.hid hb
        clear hb
        go_wp2_with fail
        refine wp_region_grows (by kernel_rfl) (by kernel_rfl) ?_
        repeat (go_big_quiet_step ((go_at_call 33; refine Calls.mono (Calls.quiet_ext (has1_c h m c w.heap.size (w.heap.size + 1) _ (by simp [go_sem, k0]) (by simp [go_sem, k1]))) ?_; rw [HBV.out]; exact fun _ _ h => h)))
        refine wpQuiet_nil ?_; rintro _ ⟨xq, rfl⟩
        go_wp2
        go_roundw
        case rel => exact ⟨q + 1, by omega, by go_num, ext_of (by (repeat (first | exact grow_refl _ | refine grow_ext _ ?_ | refine grow_alloc _ ?_ | refine grow_drew ?_)))⟩
        case measure => simp [intOf]; omega
      · have HBV := Lib.hid hb
        have HLV := Lib.hid (HLE.out hb)
        clear hb
        go_wp2_with fail
        refine wp_region_grows (by kernel_rfl) (by kernel_rfl) ?_
        repeat (go_big_quiet_step (first
          | (go_at_call 33; refine Calls.mono (Calls.quiet_ext (has1_c h m c w.heap.size (w.heap.size + 1) _ (by simp [go_sem, k0]) (by simp [go_sem, k1]))) ?_; rw [HBV.out]; exact fun _ _ h => h)
          | (go_at_call 34; refine Calls.mono (Calls.quiet_ext (light2_c h g HOK.out HG.out _)) ?_; rw [HLV.out]; exact fun _ _ h => h)))
        refine wpQuiet_nil ?_; rintro _ ⟨xq, rfl⟩
        go_wp2
        go_roundw
        case rel => exact ⟨q + 1, by omega, by go_num, ext_of (by (repeat (first | exact grow_refl _ | refine grow_ext _ ?_ | refine grow_alloc _ ?_ | refine grow_drew ?_)))⟩
        case measure => simp [intOf]; omega
    · obtain ⟨j', g', HX1, HX2⟩ := HX.out
      have hs8 : l.length + 1 ≤ 9 := by omega
      obtain rfl : q = l.length := by omega
      clear hlt
      go_wp2_with fail
      refine world_mask (fun W => Below w.heap.size w W ∧ W.cell? ⟨w.heap.size, 0, none⟩ = some (.int .i64 m) ∧ W.cell? ⟨w.heap.size + 1, 0, none⟩ = some (.int .i64 c) ∧ FbAt W (w.heap.size + 1 + 1) 0 f ∧ Below W2.heap.size W2 W) _ ?_ ?_
      · exact ⟨by (repeat (first | exact grow_refl _ | exact HB2.out | refine grow_ext _ ?_ | refine grow_alloc _ ?_ | refine grow_drew ?_)), by simp [go_sem, k0], by simp [go_sem, k1], by simp [FbAt, go_sem, n0, n1, n2, n3, n4, n5], by (repeat (first | exact grow_refl _ | refine grow_ext _ ?_ | refine grow_alloc _ ?_ | refine grow_drew ?_))⟩
      rintro W3 ⟨hB3, q0, q1, ⟨o0, o1, o2, o3, o4, o5⟩, hB23⟩
      simp only [Nat.zero_add] at o1 o2 o3 o4 o5
      have L3 := Lib.hid (L2.out.below hB23)
      have HB3 := Lib.hid hB3
      have HB23 := Lib.hid hB23
      have HS8 := Lib.hid hs8
      clear hB3 hB23 k0 k1 n0 n1 n2 n3 n4 n5 m0 m1 m2 m3 m4 m5
      go_region_held3 (fun w' => w'.cell? ⟨w.heap.size + 1 + 1, 0, none⟩ = some (.string f.name) ∧ w'.cell? ⟨w.heap.size + 1 + 1, 1, none⟩ = some (.int .i64 f.main) ∧ w'.cell? ⟨w.heap.size + 1 + 1, 2, none⟩ = some (.int .i64 f.cross) ∧ w'.cell? ⟨w.heap.size + 1 + 1, 3, none⟩ = some (.int .i64 f.length) ∧ w'.cell? ⟨w.heap.size + 1 + 1, 4, none⟩ = some (.int .i64 f.width) ∧ w'.cell? ⟨w.heap.size + 1 + 1, 5, none⟩ = some (.int .i64 f.mass)) (simp [go_sem, *])
        (first
          | (go_at_call 36; refine Calls.mono (cloneF_c l _ _ (L3.out.below (by (repeat (first | exact grow_refl _ | refine grow_ext _ ?_ | refine grow_alloc _ ?_ | refine grow_drew ?_)))) (by have := HS8.out; omega)) ?_; rintro e w' ⟨v5, rfl, hown0, y5, rfl⟩; have hown := own_mono (base' := W3.heap.size) hown0 (by simp [size_ext] <;> omega); clear hown0; simp only [ext_drew] at hown)
          | (refine step_app_own rfl _ _ 56 rfl 34 (.agg #[.string ⟨#[]⟩, .int .i64 0, .int .i64 0, .int .i64 0, .int .i64 0, .int .i64 0]) 6 56 Try.underlying56 info_fab rfl (by decide) W3 v5 l.length (fabCells l) _ rfl (by first | with_reducible exact hown | with_reducible exact hown.alloc _) _ 1 1 (fabCells [f]) rfl rfl ?_ (fabCells_one _) (by have := HS8.out; omega) (by decide) ?_ ?_; (first | (refine cells_new ?_ _ _ _ rfl; simp [size_ext]) | (refine cells_new_extL ?_ _ _ _ rfl; simp [size_ext])); (repeat (first | exact grow_refl _ | refine grow_ext _ ?_ | refine grow_alloc _ ?_ | refine grow_drew ?_)); intro v' x' hown3 hgrow))
      all_goals
        have hmore : (ext W3 x').ownsRow W3.heap.size 34 6 v' (l ++ [f]).length (fabCells (l ++ [f])) := by rw [fabCells_append, List.length_append]; exact hown3
        have F3 := Lib.hid (Fabs.of_own (fun z hz => by
          rcases List.mem_append.1 hz with e | e
          · exact L3.out.names z e
          · rw [List.mem_singleton.1 e]; exact HN.out) hmore)
        clear hown3 hgrow hown hmore
        obtain ⟨a6, c6, e6, hc6, hc6', hcell6⟩ := F3.out.shape
        subst e6
        have hlen6 : (l ++ [f]).length ≤ 9 := by simp; omega
        generalize hmo : l ++ [f] = more at *
        have HM := Lib.hid hmo
        have HC6 := Lib.hid hcell6
        have R6 := Lib.hid (fun w hl => choose_c more (.slice a6 more.length c6) m c w hl)
        clear hmo hcell6
        cases hv2 : fabsB more
        · rw [show chooseR more m c = (0, 1) by unfold chooseR; rw [hv2]; rfl] at R6
          dsimp only at R6
          clear hv2
          go_wp2_with fail
          go_at_call 27; refine (R6.out _ (F3.out.below (by (repeat (first | exact grow_refl _ | refine grow_ext _ ?_ | refine grow_alloc _ ?_ | refine grow_drew ?_))))).mono ?_; rintro e w' ⟨rfl, x7, rfl⟩
          go_wp2_with fail
          refine wp_region_grows (by kernel_rfl) (by kernel_rfl) ?_
          repeat (go_big_quiet_step (fail))
          refine wpQuiet_nil ?_; rintro _ ⟨xq, rfl⟩
          go_wp2
          go_ret
          exact Ret.of (by (repeat (first | exact grow_refl _ | exact HB3.out | refine grow_ext _ ?_ | refine grow_alloc _ ?_ | refine grow_drew ?_)))
        · rw [chooseR_some hv2 j' g' HX1] at R6
          dsimp only at R6
          obtain ⟨hjl6, hjg6, _⟩ := choose_in (Nat.le_refl _) HX1
          rw [List.getElem?_eq_getElem hjl6] at hjg6
          have hjg6 : more[j'] = g' := by injection hjg6
          have hgo : fbOk g' = true := by rw [← hjg6]; exact fabs_mem hv2 hjl6
          obtain ⟨_, b7, off7, e7, s0, s1, s2, s3, s4, s5⟩ := HC6.out j' hjl6
          subst e7
          rw [hjg6] at s0 s1 s2 s3 s4 s5
          obtain ⟨_, _, he3, _, _, hcell3⟩ := L3.out.shape
          cases he3
          obtain ⟨_, b8, off8, e8, u0, u1, u2, u3, u4, u5⟩ := hcell3 j hjl
          cases e8
          rw [HJ.out] at u0 u1 u2 u3 u4 u5
          have p1 : (0 : Int) ≤ (j' : Int) := by omega
          have p2 : (j' : Int) < (more.length : Int) := by omega
          have p3 : decide ((j' : Int) < (more.length : Int)) = true := by simp; omega
          have p4 : decide ((0 : Int) ≤ (j' : Int)) = true := by simp
          have HGO := Lib.hid hgo
          have HL2 := Lib.hid HX2
          have HJ6 := Lib.hid hjg6
          clear hv2 hjg6 hgo hcell3 HX1 HX2
          go_wp2_with fail
          go_at_call 27; refine (R6.out _ (F3.out.below (by (repeat (first | exact grow_refl _ | refine grow_ext _ ?_ | refine grow_alloc _ ?_ | refine grow_drew ?_))))).mono ?_; rintro e w' ⟨rfl, x7, rfl⟩
          go_wp2_with fail
          refine wp_region_grows (by kernel_rfl) (by kernel_rfl) ?_
          repeat (go_big_quiet_step ((go_at_call 34; refine Calls.mono (Calls.quiet_ext (light2_c g g' HG.out HGO.out _)) ?_; rw [HL2.out]; exact fun _ _ h => h)))
          refine wpQuiet_nil ?_; rintro _ ⟨xq, rfl⟩
          go_wp2
          go_ret
          exact Ret.of (by (repeat (first | exact grow_refl _ | exact HB3.out | refine grow_ext _ ?_ | refine grow_alloc _ ?_ | refine grow_drew ?_)))

theorem lawFabricLightest_c (l : List Fb) (v : Value) (m c : Int) (f : Fb) (_ : -9223372036854775808 ≤ m ∧ m ≤ 9223372036854775807) (_ : -9223372036854775808 ≤ c ∧ c ≤ 9223372036854775807) (hn : f.name.size ≤ 9223372036854775807) (w : World) (hl : Fabs w v l) :
    Calls Try.prog 10 #[v, .int .i64 m, .int .i64 c, (.agg #[.string f.name, .int .i64 f.main, .int .i64 f.cross, .int .i64 f.length, .int .i64 f.width, .int .i64 f.mass])] w (Ret w (.bool true)) := by
  by_cases h : longB l = true ∨ 8 < l.length ∨ longB [f] = true ∨ fabsB l = false
  · exact light_guard l v m c f hn w hl h
  have h1 : longB l = false := by
    cases hh : longB l
    · rfl
    · exact absurd (.inl hh) h
  have h2 : l.length ≤ 8 := by
    rcases Nat.lt_or_ge 8 l.length with hh | hh
    · exact absurd (.inr (.inl hh)) h
    · exact hh
  have h3 : longB [f] = false := by
    cases hh : longB [f]
    · rfl
    · exact absurd (.inr (.inr (.inl hh))) h
  have h4 : fabsB l = true := by
    cases hh : fabsB l
    · exact absurd (.inr (.inr (.inr hh))) h
    · rfl
  cases hb : chooseN l m c l.length with
  | none => exact light_none l v m c f hn w hl h1 h2 h3 h4 hb
  | some p =>
    obtain ⟨j, g⟩ := p
    exact light_some l v m c f hn w hl h1 h2 h3 h4 j g hb

end Go.Proofs.Ytolcpkpfndnkbaa

/- SolR, SolS, SolT, SolU in one text. -/
import Derived.Test.YtofjopdcbmaijaaGreatSolK
import Derived.Test.YtofjopdcbmaijaaGreatExtK
import Derived.Deep.RegionHeld3
import Derived.Test.YtofjopdcbmaijaaGreatSolK3
namespace Go.Proofs.YtofjopdcbmaijaaGreat
open Go.RowKit
set_option maxRecDepth 20000

set_option maxHeartbeats 1000000 in
theorem refSolHull_c (l : List Bx) (u t : Value) (h0 : 0 < l.length) (w : World) (hl : Boxes w u l) : Calls Tryz.prog 93 #[.agg #[u, t]] w (Ret w (.agg #[.int .i64 (hullX l).lx, .int .i64 (hullX l).ly, .int .i64 (hullX l).lz, .int .i64 (hullX l).hx, .int .i64 (hullX l).hy, .int .i64 (hullX l).hz])) := by
  have HL := Lib.hid hl
  have HH := Lib.hid (fun w hl => refHull_c l u w hl h0)
  clear hl
  go_enter Tryz.func93, Tryz.ntmps93
  go_wp2_with fail
  go_at_call 134; refine (HH.out _ (HL.out.below (by (repeat (first | exact grow_refl _ | refine grow_ext _ ?_ | refine grow_alloc _ ?_ | refine grow_drew ?_))))).mono ?_; rintro e w' ⟨rfl, x1, rfl⟩
  go_wp2
  refine bodyPost_ret (v := (.agg #[.int .i64 (hullX l).lx, .int .i64 (hullX l).ly, .int .i64 (hullX l).lz, .int .i64 (hullX l).hx, .int .i64 (hullX l).hy, .int .i64 (hullX l).hz])) (by simp [results, Tryz.results93, go_sem]) rfl ?_
  exact Ret.of (by (repeat (first | exact grow_refl _ | refine grow_ext _ ?_ | refine grow_alloc _ ?_ | refine grow_drew ?_)))

theorem any_open_true {l : List Bx} {b : Bx} {i : Nat} (h : i < l.length) (hp : opensB l[i] b = true) : (l.any fun h => opensB h b) = true := any_true_of (p := fun h => opensB h b) h hp

def smallB (a b n : Nat) : Bool := (decide (a ≤ n) || decide (20 < a)) && decide (a ≤ 25) && (decide (b ≤ n) || decide (20 < b)) && decide (b ≤ 25)
theorem small_iff {a b n : Nat} : smallB a b n = true ↔ ((a ≤ n ∨ 20 < a) ∧ a ≤ 25) ∧ ((b ≤ n ∨ 20 < b) ∧ b ≤ 25) := by
  unfold smallB; simp only [Bool.and_eq_true, Bool.or_eq_true, decide_eq_true_iff, and_assoc]

set_option maxHeartbeats 2000000 in
theorem refSmall_c (l m : List Bx) (u t : Value) (n : Nat) (w : World) (hl : Boxes w u l) (hm : Boxes w t m) :
    Calls Tryz.prog 14 #[.agg #[u, t], .int .i64 n] w (Ret w (.bool (smallB l.length m.length n))) := by
  obtain ⟨ua, uc, rfl, _, _, _⟩ := hl.shape
  obtain ⟨ta, tc, rfl, _, _, _⟩ := hm.shape
  clear hl hm
  go_enter Tryz.func14, Tryz.ntmps14
  go_wp2_with fail
  refine wp_region_grows (by kernel_rfl) (by kernel_rfl) ?_
  repeat (go_big_quiet_step (fail))
  refine wpQuiet_nil ?_; rintro _ ⟨xq, rfl⟩
  go_wp2
  all_goals
    go_ret
    exact Ret.bool (by rw [Bool.eq_iff_iff, small_iff]; simp; try omega) (by (repeat (first | exact grow_refl _ | refine grow_ext _ ?_ | refine grow_alloc _ ?_ | refine grow_drew ?_)))
theorem refSmall_v (l m : List Bx) (u t : Value) (n : Nat) (r : Bool) (h : smallB l.length m.length n = r) (w : World) (hl : Boxes w u l) (hm : Boxes w t m) :
    Calls Tryz.prog 14 #[.agg #[u, t], .int .i64 n] w (Ret w (.bool r)) := by subst h; exact refSmall_c l m u t n w hl hm

end Go.Proofs.YtofjopdcbmaijaaGreat

namespace Go.Proofs.YtofjopdcbmaijaaGreat
open Go.RowKit
set_option maxRecDepth 20000

/-- append(s, x...) of whatever slice, as one step of a region that draws its order. -/
theorem step_app_any {P : Program} {ops : Array Oper} {o : Oper} {a : Act} {K : Act → World → Prop} {Q : Exit → Act → World → Prop} {E : Prop} (hgd : o.guard = none) (s x : Operand) (t : TypeId)
    (ho : o.op = .call { callee := .builtin .append, args := #[s, x], argTypes := #[t, t] })
    (e : TypeId) (z : Value) (size bytes : Nat) (ht : P.underlying t = some (.slice e)) (hi : (P.info? e).map (fun i => (i.zero, i.size, i.bytes)) = some (some z, size, bytes)) (hzs : z.cells.size = size) (hsz : 0 < size)
    (B : World) (v : Value) (n : Nat) (xs : List Value) (w : World) (hs : a.eval s = v) (hown : w.ownsRow B.heap.size e size v n xs)
    (ad : Option Addr) (m c : Nat) (news : List Value) (hx : a.eval x = .slice ad m c) (hl : news.length = m * size) (hnil : ad = none → m = 0) (hnews : ∀ a', ad = some a' → ∀ j u, news[j]? = some u → w.cell? (a'.add j) = some u) (h1 : ∀ u ∈ news, u.oneCell' = true)
    (hroom : (n + m) * bytes ≤ 140737488355328) (hby : 0 < bytes) (hB : Below B.heap.size B w)
    (h : ∀ v' y, (ext B y).ownsRow B.heap.size e size v' (n + m) (xs ++ news) → w.grownBy (ext B y) v.ownBlock → K (a.put o.dst v') (ext B y)) :
    if Region.wanted o (yielded ops a.tmps) = true then Oper.wp P o a w K Q else E := by
  obtain ⟨i0, hi, hz0, hz1, hz2⟩ := info_parts hi
  have h63 : n + m ≤ maxLen := by
    unfold maxLen
    have := Nat.le_mul_of_pos_right (n + m) hby
    omega
  rw [if_pos (by simp [Region.wanted, hgd])]
  cases ad with
  | some ad =>
    refine wp_append_own w s x t ho B.heap.size e i0 z size bytes ht hi hz0 hz1 hz2 hzs hsz v n xs hs hown ad m c news hx hl (hnews ad rfl) h1 h63 hroom hB.size ?_
    intro v' w' hown' hgrow _
    obtain ⟨y, rfl⟩ := ext_of (hB.grown hgrow hB.size (own_row hown))
    exact h v' y hown' hgrow
  | none =>
    obtain rfl := hnil rfl
    have hn0 : news = [] := List.eq_nil_of_length_eq_zero (by omega)
    subst hn0
    refine Lib.wp_append_run w s x t t ho v _ hs hx v w (run_append_none w B.heap.size t o.type e i0 size c ht hi v n xs hown) ?_
    obtain ⟨y, hy⟩ := ext_of hB
    rw [hy]
    exact h v y (by rw [← hy]; simpa using hown) (by rw [← hy]; exact ⟨rfl, rfl, rfl, Nat.le_refl _, fun _ _ _ => rfl⟩)

theorem cell_belowR {W W' : World} {a : Addr} {v : Value} (hc : W.cell? a = some v) (hb : Below W.heap.size W W') : W'.cell? a = some v := by
  obtain ⟨y, rfl⟩ := ext_of hb
  exact cell_ext_some hc y

theorem own_below3 {w w' : World} {base : Nat} {e : TypeId} {s : Nat} {v : Value} {n : Nat} {xs : List Value} (h : w.ownsRow base e s v n xs) (hb : Below w.heap.size w w') : w'.ownsRow base e s v n xs := by
  obtain ⟨y, rfl⟩ := ext_of hb; exact own_ext h y

theorem filter_take_succ {α : Type} {p : α → Bool} {l : List α} {i : Nat} (h : i < l.length) : (l.take (i + 1)).filter p = (l.take i).filter p ++ if p l[i] = true then [l[i]] else [] := by
  rw [List.take_succ_eq_append_getElem h, List.filter_append]
  by_cases hp : p l[i] = true
  · rw [if_pos hp]; simp [hp]
  · rw [if_neg hp]; simp [hp]

theorem any_take_step {α : Type} {p : α → Bool} {l : List α} {i : Nat} (h : i < l.length) : (l.take (i + 1)).any p = ((l.take i).any p || p l[i]) := by
  rw [List.take_succ_eq_append_getElem h, List.any_append]; simp

set_option maxRecDepth 100000 in
set_option maxHeartbeats 8000000 in
theorem refSolCells_c (l m : List Bx) (u t : Value) (hs : solidB l m = true) (w : World) (hl : Boxes w u l) (hm : Boxes w t m) :
    Calls Tryz.prog 50 #[.agg #[u, t]] w (RetOwn w 38 6 (cellsL l m).length (boxCells (cellsL l m))) := by
  obtain ⟨ua, uc, rfl, huc, huc2, hun, hucell⟩ := hl.slice
  obtain ⟨ta, tc, rfl, htc, htc2, htn, htcell⟩ := hm.slice
  have hsi := solid_iff.1 hs
  have hne : l ≠ [] := by rintro rfl; simp at hsi
  have hth := hull_thick hsi.2.2.1 hne
  have l20 := hsi.1.2
  have m20 := hsi.2.1
  have l1 : 0 < l.length := by omega
  have HL := Lib.hid hl
  have HM := Lib.hid hm
  have HUN := Lib.hid hun
  have HTN := Lib.hid htn
  have HUC := Lib.hid hucell
  have HTC := Lib.hid htcell
  have hlm : (l ++ m).length ≤ 40 := by rw [List.length_append]; omega
  have hord : Ord (hullX l) := ord_of hth
  have RP := Lib.hid (fun v w hb => refParts_c (l ++ m) v (hullX l) w hb (by omega) hord)
  rw [parts_pairs (thick_axis hth 0), parts_pairs (thick_axis hth 1), parts_pairs (thick_axis hth 2)] at RP
  have HCE := Lib.hid (show cellsL l m = (rowA (pairsL (cutsB (l ++ m) (hullX l) 0)) (pairsL (cutsB (l ++ m) (hullX l) 1)) (pairsL (cutsB (l ++ m) (hullX l) 2))).filter (selB l m) from rfl)
  have HO : Hid (∀ c ∈ rowA (pairsL (cutsB (l ++ m) (hullX l) 0)) (pairsL (cutsB (l ++ m) (hullX l) 1)) (pairsL (cutsB (l ++ m) (hullX l) 2)), Ord c) := by
    intro c hc
    have := cell_ord (cutsB_asc _ _ _) (cutsB_asc _ _ _) (cutsB_asc _ _ _) hc
    unfold Ord; omega
  have HLEN : Hid ((rowA (pairsL (cutsB (l ++ m) (hullX l) 0)) (pairsL (cutsB (l ++ m) (hullX l) 1)) (pairsL (cutsB (l ++ m) (hullX l) 2))).length ≤ 1000000) := by
    have b0 := cutsB_length (l ++ m) (hullX l) 0
    have b1 := cutsB_length (l ++ m) (hullX l) 1
    have b2 := cutsB_length (l ++ m) (hullX l) 2
    have p0 := pairsL_len (cutsB (l ++ m) (hullX l) 0)
    have p1 := pairsL_len (cutsB (l ++ m) (hullX l) 1)
    have p2 := pairsL_len (cutsB (l ++ m) (hullX l) 2)
    have q1 : ∀ x, (rowX (pairsL (cutsB (l ++ m) (hullX l) 1)) (pairsL (cutsB (l ++ m) (hullX l) 2)) x).length ≤ 81 * 81 := fun x => by
      refine Nat.le_trans (flat_len _ 81 _ fun y => by unfold rowY; rw [List.length_map]; omega) (Nat.mul_le_mul_right _ (by omega))
    refine Nat.le_trans (flat_len _ (81 * 81) _ q1) (Nat.le_trans (Nat.mul_le_mul_right _ (show _ ≤ 81 by omega)) (by decide))
  generalize hcells : cellsL l m = cells at *
  generalize rowA (pairsL (cutsB (l ++ m) (hullX l) 0)) (pairsL (cutsB (l ++ m) (hullX l) 1)) (pairsL (cutsB (l ++ m) (hullX l) 2)) = PL at *
  clear hl hm hsi hne hth hs hun htn hucell htcell hord hcells
  go_enter Tryz.func50, Tryz.ntmps50
  go_wp2_with fail
  go_region_held3 (fun w' => w'.cell? ⟨w.heap.size, 0, none⟩ = some (.slice ua l.length uc) ∧ w'.cell? ⟨w.heap.size, 1, none⟩ = some (.slice ta m.length tc)) (simp [go_sem, *])
    (first
      | (refine step_app_any rfl (.tmp 10) (.tmp 12) 26 rfl 38 (.agg #[.int .i64 0, .int .i64 0, .int .i64 0, .int .i64 0, .int .i64 0, .int .i64 0]) 6 48 Tryz.underlying26 info_box' rfl (by decide) (w.alloc (.cells #[.slice ua l.length uc, .slice ta m.length tc] 44)) _ 0 [] _ rfl (own_lit _ #[] 0 _ [] (by first | rfl | simp) (by first | exact Nat.le_refl _ | simp) (by decide) rfl rfl) ua l.length uc (boxCells l) rfl (boxCells_length l) HUN.out ?_ (boxCells_one l) ?_ (by decide) ?_ ?_; (exact fun a2 ha j q hj => cell_belowR (HUC.out a2 ha j q hj) (by (repeat (first | exact grow_refl _ | refine grow_ext _ ?_ | refine grow_alloc _ ?_ | refine grow_drew ?_)))); omega; (repeat (first | exact grow_refl _ | refine grow_ext _ ?_ | refine grow_alloc _ ?_ | refine grow_drew ?_)); intro v13 y13 hown13 hgrow13; have O13 := Lib.hid hown13; clear hown13 hgrow13)
      | (refine step_app_any rfl (.tmp 13) (.tmp 15) 26 rfl 38 (.agg #[.int .i64 0, .int .i64 0, .int .i64 0, .int .i64 0, .int .i64 0, .int .i64 0]) 6 48 Tryz.underlying26 info_box' rfl (by decide) (w.alloc (.cells #[.slice ua l.length uc, .slice ta m.length tc] 44)) v13 (0 + l.length) ([] ++ boxCells l) _ rfl O13.out ta m.length tc (boxCells m) rfl (boxCells_length m) HTN.out ?_ (boxCells_one m) ?_ (by decide) ?_ ?_; (exact fun a2 ha j q hj => cell_belowR (HTC.out a2 ha j q hj) (by (repeat (first | exact grow_refl _ | refine grow_ext _ ?_ | refine grow_alloc _ ?_ | refine grow_drew ?_)))); omega; (repeat (first | exact grow_refl _ | refine grow_ext _ ?_ | refine grow_alloc _ ?_ | refine grow_drew ?_)); intro v16 y16 hown16 hgrow16; have O16 := Lib.hid hown16; clear hown16 hgrow16))
  have P3 := Lib.hid (Boxes.of_own (show (ext (w.alloc (.cells #[.slice ua l.length uc, .slice ta m.length tc] 44)) y16).ownsRow _ _ 6 v16 (l ++ m).length (boxCells (l ++ m)) by
    have := O16.out
    rw [Nat.zero_add, List.nil_append, ← boxCells_append, ← List.length_append] at this
    exact this))
  clear O13 O16
  go_wp2_with fail
  go_at_call 93; refine (refSolHull_c l _ _ l1 _ (HL.out.below (by (repeat (first | exact grow_refl _ | refine grow_ext _ ?_ | refine grow_alloc _ ?_ | refine grow_drew ?_))))).mono ?_; rintro e w' ⟨rfl, x1, rfl⟩
  go_wp2_with fail
  go_at_call 92; refine Calls.mono (RP.out _ _ (P3.out.below (by (repeat (first | exact grow_refl _ | refine grow_ext _ ?_ | refine grow_alloc _ ?_ | refine grow_drew ?_))))) ?_; rintro e w' ⟨v4, rfl, hown4, x4, rfl⟩
  have P4 := Lib.hid (Boxes.of_own hown4)
  obtain ⟨a4, c4, rfl, hc4, hc5, _⟩ := own_shape hown4
  have hc6 : c4 ≤ 9223372036854775807 := hc5
  clear hown4 hc5
  go_wp2_with fail
  refine world_mask (fun W => Below w.heap.size w W ∧ W.cell? ⟨w.heap.size, 0, none⟩ = some (.slice ua l.length uc) ∧ W.cell? ⟨w.heap.size, 1, none⟩ = some (.slice ta m.length tc) ∧ Boxes W (.slice a4 PL.length c4) PL) _ ?_ ?_
  · exact ⟨by (repeat (first | exact grow_refl _ | refine grow_ext _ ?_ | refine grow_alloc _ ?_ | refine grow_drew ?_)), by simp [go_sem], by simp [go_sem], P4.out.below (by (repeat (first | exact grow_refl _ | refine grow_ext _ ?_ | refine grow_alloc _ ?_ | refine grow_drew ?_)))⟩
  clear P3 P4 HUC HTC HUN HTN RP
  rintro W1 ⟨hB, ku, kt, hP⟩
  have HB := Lib.hid hB
  obtain ⟨_, _, he, _, _, hcell⟩ := hP.shape
  cases he
  have HC := Lib.hid hcell
  have HL1 := Lib.hid (HL.out.below hB)
  have HM1 := Lib.hid (HM.out.below hB)
  obtain ⟨_, _, he, _, _, hcm⟩ := HM1.out.shape
  cases he
  have HCM := Lib.hid hcm
  clear hB hP hcell hcm HL HM
  go_loopw [6, 5] (fun i v wr => ∃ j : Nat, j ≤ PL.length ∧ i = .int .i64 j ∧ (∃ x, wr = ext W1 x) ∧ wr.ownsRow W1.heap.size 38 6 v ((PL.take j).filter (selB l m)).length (boxCells ((PL.take j).filter (selB l m)))) (fun i _ _ => PL.length - (intOf i).toNat)
  case atStart => exact ⟨0, Nat.zero_le _, rfl, ext_refl _, World.ownsRow_nil _ _ _ _⟩
  case round =>
    obtain ⟨j, hj, rfl, ⟨x, rfl⟩, hown⟩ := hrel
    have HO1 := Lib.hid hown
    clear hown
    by_cases hlt : j < PL.length
    · obtain ⟨b0, off, rfl, c0, c1, c2, c3, c4, c5⟩ := HC.out j hlt
      have HS := Lib.hid (filter_take_succ (p := selB l m) hlt)
      have HOC := Lib.hid (HO.out _ (List.getElem_mem hlt))
      have HLJ : Hid (((PL.take j).filter (selB l m)).length ≤ 1000000) := by
        refine Nat.le_trans (List.length_filter_le _ _) (Nat.le_trans (List.length_take_le _ _) ?_)
        have := HLEN.out; omega
      obtain ⟨c, hc⟩ : ∃ c, c = PL[j] := ⟨_, rfl⟩
      rw [← hc] at c0 c1 c2 c3 c4 c5 HS HOC
      clear hc
      generalize (PL.take j).filter (selB l m) = done at HO1 HS HLJ
      go_wp2_with fail
      go_loopw [9, 8] (fun i b wr => ∃ k : Nat, k ≤ m.length ∧ i = .int .i64 k ∧ b = .bool ((m.take k).any fun h => opensB h c) ∧ ∃ y, wr = ext ((ext W1 x).alloc (.cells #[.int .i64 c.lx, .int .i64 c.ly, .int .i64 c.lz, .int .i64 c.hx, .int .i64 c.hy, .int .i64 c.hz] 38)) y) (fun i _ _ => m.length - (intOf i).toNat)
      case atStart => exact ⟨0, Nat.zero_le _, rfl, by simp, ext_refl _⟩
      case round =>
        obtain ⟨k, hk, rfl, rfl, y, rfl⟩ := hrel
        clear c0 c1 c2 c3 c4 c5
        by_cases hkt : k < m.length
        · obtain ⟨b1, off1, rfl, d0, d1, d2, d3, d4, d5⟩ := HCM.out k hkt
          have HAS := Lib.hid (any_take_step (p := fun h => opensB h c) hkt)
          have p5 : (0 : Int) ≤ (k : Int) := by omega
          have p6 : (k : Int) < (m.length : Int) := by omega
          cases hcut : (m.take k).any fun h => opensB h c
          · obtain ⟨r, hr⟩ : ∃ r, opensB m[k] c = r := ⟨_, rfl⟩
            have HN := Lib.hid (show ((m.take (k + 1)).any fun h => opensB h c) = r by rw [HAS.out, hcut, hr]; rfl)
            have HR := Lib.hid hr
            clear hcut hr
            go_wp2_with fail
            refine wp_region_grows (by kernel_rfl) (by kernel_rfl) ?_
            repeat (go_big_quiet_step ((go_at_call 94; exact Calls.quiet_ext (refOpens_v m[k] c _ HR.out _))))
            refine wpQuiet_nil ?_; rintro _ ⟨xq, rfl⟩
            go_wp2
            go_roundw
            case rel => exact ⟨k + 1, by omega, by go_num, by rw [HN.out], ext_of (by (repeat (first | exact grow_refl _ | refine grow_ext _ ?_ | refine grow_alloc _ ?_ | refine grow_drew ?_)))⟩
            case measure => simp [intOf]; omega
          · have HN := Lib.hid (show ((m.take (k + 1)).any fun h => opensB h c) = true by rw [HAS.out, hcut]; rfl)
            clear hcut
            go_wp2_with fail
            refine wp_region_grows (by kernel_rfl) (by kernel_rfl) ?_
            repeat (go_big_quiet_step (fail))
            refine wpQuiet_nil ?_; rintro _ ⟨xq, rfl⟩
            go_wp2
            go_roundw
            case rel => exact ⟨k + 1, by omega, by go_num, by rw [HN.out], ext_of (by (repeat (first | exact grow_refl _ | refine grow_ext _ ?_ | refine grow_alloc _ ?_ | refine grow_drew ?_)))⟩
            case measure => simp [intOf]; omega
        · obtain rfl : k = m.length := by omega
          rw [List.take_length]
          clear hkt
          cases hcut : m.any fun h => opensB h c
          · cases hin : l.any fun a => containsB a c
            · have hsel : ¬ selB l m c = true := by unfold selB; rw [hin]; simp
              rw [if_neg hsel, List.append_nil] at HS
              have HIN := Lib.hid hin
              clear hcut hin hsel
              go_wp2_with fail
              go_at_call 95; refine (refIn_c l _ c _ (HL1.out.below (by (repeat (first | exact grow_refl _ | refine grow_ext _ ?_ | refine grow_alloc _ ?_ | refine grow_drew ?_)))) HOC.out).mono ?_; rintro e w' ⟨rfl, x5, rfl⟩
              rw [HIN.out]
              go_wp2
              go_roundw
              case rel => exact ⟨j + 1, by omega, by go_num, ext_of (by (repeat (first | exact grow_refl _ | refine grow_ext _ ?_ | refine grow_alloc _ ?_ | refine grow_drew ?_))), by rw [HS.out]; exact own_below3 HO1.out (by (repeat (first | exact grow_refl _ | refine grow_ext _ ?_ | refine grow_alloc _ ?_ | refine grow_drew ?_)))⟩
              case measure => simp [intOf]; omega
            · have hsel : selB l m c = true := by unfold selB; rw [hin, hcut]; rfl
              rw [if_pos hsel] at HS
              have HIN := Lib.hid hin
              clear hcut hin hsel
              go_wp2_with fail
              go_at_call 95; refine (refIn_c l _ c _ (HL1.out.below (by (repeat (first | exact grow_refl _ | refine grow_ext _ ?_ | refine grow_alloc _ ?_ | refine grow_drew ?_)))) HOC.out).mono ?_; rintro e w' ⟨rfl, x5, rfl⟩
              rw [HIN.out]
              have HO5 := Lib.hid (own_below3 (w' := ext (ext ((ext W1 x).alloc (.cells #[.int .i64 c.lx, .int .i64 c.ly, .int .i64 c.lz, .int .i64 c.hx, .int .i64 c.hy, .int .i64 c.hz] 38)) y) x5) HO1.out (by (repeat (first | exact grow_refl _ | refine grow_ext _ ?_ | refine grow_alloc _ ?_ | refine grow_drew ?_))))
              go_wp2_with (at_builtin; refine app_own rfl _ _ 26 rfl 38 (.agg #[.int .i64 0, .int .i64 0, .int .i64 0, .int .i64 0, .int .i64 0, .int .i64 0]) 6 48 Tryz.underlying26 info_box' rfl (by decide) W1 _ _ _ _ rfl (HO5.out.alloc _) _ 1 1 (boxCells [c]) rfl rfl (cells_new ?_ _ _ _ rfl) (boxCells_one _) ?_ (by decide) ?_ ?_; (first | rfl | simp [size_ext]); (have := HLJ.out; omega); (repeat (first | exact grow_refl _ | refine grow_ext _ ?_ | refine grow_alloc _ ?_ | refine grow_drew ?_)); intro v' x' hown3 hgrow)
              go_roundw
              case rel => exact ⟨j + 1, by omega, by go_num, ⟨_, rfl⟩, by rw [HS.out, boxCells_append, List.length_append]; exact hown3⟩
              case measure => simp [intOf]; omega
          · have hsel : ¬ selB l m c = true := by unfold selB; rw [hcut]; simp
            rw [if_neg hsel, List.append_nil] at HS
            clear hcut hsel
            go_wp2
            go_roundw
            case rel => exact ⟨j + 1, by omega, by go_num, ext_of (by (repeat (first | exact grow_refl _ | refine grow_ext _ ?_ | refine grow_alloc _ ?_ | refine grow_drew ?_))), by rw [HS.out]; exact own_below3 HO1.out (by (repeat (first | exact grow_refl _ | refine grow_ext _ ?_ | refine grow_alloc _ ?_ | refine grow_drew ?_)))⟩
            case measure => simp [intOf]; omega
    · obtain rfl : j = PL.length := by omega
      rw [List.take_length, ← HCE.out] at HO1
      go_wp2
      go_ret
      exact ⟨_, rfl, own_mono (own_below3 HO1.out (by (repeat (first | exact grow_refl _ | refine grow_ext _ ?_ | refine grow_alloc _ ?_ | refine grow_drew ?_)))) HB.out.size, ext_of (by (repeat (first | exact grow_refl _ | exact HB.out | refine grow_ext _ ?_ | refine grow_alloc _ ?_ | refine grow_drew ?_)))⟩

end Go.Proofs.YtofjopdcbmaijaaGreat

namespace Go.Proofs.YtofjopdcbmaijaaGreat
open Go.RowKit
set_option maxRecDepth 20000

theorem div_lt {a b h : Int} (hh : 0 < h) : b / h < a ↔ b < a * h := by
  constructor
  · intro hlt
    have := Int.lt_ediv_add_one_mul_self b hh
    have h2 : (b / h + 1) * h ≤ a * h := Int.mul_le_mul_of_nonneg_right (by omega) (by omega)
    omega
  · intro hlt
    exact Int.ediv_lt_of_lt_mul hh hlt

theorem Boxes.own_grown {w w' : World} {base : Nat} {e : TypeId} {v : Value} {l : List Bx} (h : w.ownsRow base e 6 v l.length (boxCells l)) (hb : Below w.heap.size w w') : Boxes w' v l := (Boxes.of_own h).below hb

end Go.Proofs.YtofjopdcbmaijaaGreat

namespace Go.Proofs.YtofjopdcbmaijaaGreat
open Go.RowKit
set_option maxRecDepth 20000

theorem secF_nonneg {l m : List Bx} {x : Int} {c : Bx} (h : c ∈ cellsL l m) : 0 ≤ secF x c := by
  unfold secF
  have := (cells_mem h).1
  split
  · exact area_nonneg (by omega)
  · exact Int.le_refl _

set_option maxRecDepth 100000 in
set_option maxHeartbeats 4000000 in
theorem refSection_c (l m : List Bx) (u t : Value) (q : Int) (hs : solidB l m = true) (w : World) (hl : Boxes w u l) (hm : Boxes w t m) :
    Calls Tryz.prog 21 #[.agg #[u, t], .int .i64 q] w (Ret w (.int .i64 (sectI l m q))) := by
  have hsi := solid_iff.1 hs
  have hne : l ≠ [] := by rintro rfl; simp at hsi
  have HC := Lib.hid (fun (w : World) hl hm => refSolCells_c l m u t hs w hl hm)
  have HV : Hid (∀ c ∈ cellsL l m, thickB c = true) := fun c hc => cells_valid hsi.2.2.1 hne hc
  have HLE : Hid (∀ i, sumL (secF q) ((cellsL l m).take i) ≤ 4398046511104) := fun i => Int.le_trans (sumL_take_le (fun c hc => secF_nonneg hc) i) (sect_bound hsi.2.2.1 hne q).2
  have HNN : Hid (∀ i, 0 ≤ sumL (secF q) ((cellsL l m).take i)) := fun i => sumL_nonneg fun c hc => secF_nonneg (List.mem_of_mem_take hc)
  have HT : Hid (∀ i (h : i < (cellsL l m).length), sumL (secF q) ((cellsL l m).take (i + 1)) = sumL (secF q) ((cellsL l m).take i) + secF q (cellsL l m)[i]) := fun i h => sumL_take _ _ i h
  have HALL : Hid (sumL (secF q) ((cellsL l m).take (cellsL l m).length) = sectI l m q) := by rw [List.take_length]; exact Lib.hid rfl
  have HL := Lib.hid hl
  have HM := Lib.hid hm
  generalize hcs : cellsL l m = cs at *
  generalize sectI l m q = V at *
  clear hs hsi hne hl hm hcs
  go_enter Tryz.func21, Tryz.ntmps21
  go_wp2_with fail
  go_at_call 50; refine Calls.mono (HC.out _ (HL.out.below (by (repeat (first | exact grow_refl _ | refine grow_ext _ ?_ | refine grow_alloc _ ?_ | refine grow_drew ?_)))) (HM.out.below (by (repeat (first | exact grow_refl _ | refine grow_ext _ ?_ | refine grow_alloc _ ?_ | refine grow_drew ?_))))) ?_; rintro e w' ⟨v1, rfl, hown1, x1, rfl⟩
  have P1 := Lib.hid (Boxes.of_own hown1)
  obtain ⟨a1, c1, rfl, hc1, hc2, _⟩ := own_shape hown1
  have hc3 : c1 ≤ 9223372036854775807 := hc2
  clear hown1 hc2
  go_wp2_with fail
  refine world_mask (fun W => Below w.heap.size w W ∧ Boxes W (.slice a1 cs.length c1) cs) _ ?_ ?_
  · exact ⟨by (repeat (first | exact grow_refl _ | refine grow_ext _ ?_ | refine grow_alloc _ ?_ | refine grow_drew ?_)), P1.out.below (by (repeat (first | exact grow_refl _ | refine grow_ext _ ?_ | refine grow_alloc _ ?_ | refine grow_drew ?_)))⟩
  clear P1 HC HL HM
  rintro W1 ⟨hB, hP⟩
  have HB := Lib.hid hB
  obtain ⟨_, _, he, _, _, hcell⟩ := hP.shape
  cases he
  have HCE := Lib.hid hcell
  clear hB hP hcell
  go_loopw [7, 6] (fun i s wr => ∃ j : Nat, j ≤ cs.length ∧ i = .int .i64 j ∧ s = .int .i64 (sumL (secF q) (cs.take j)) ∧ ∃ x, wr = ext W1 x) (fun i _ _ => cs.length - (intOf i).toNat)
  case atStart => exact ⟨0, Nat.zero_le _, rfl, rfl, ext_refl _⟩
  case round =>
    obtain ⟨j, hj, rfl, rfl, x, rfl⟩ := hrel
    by_cases hlt : j < cs.length
    · obtain ⟨b0, off, rfl, d0, d1, d2, d3, d4, d5⟩ := HCE.out j hlt
      have hnn := HNN.out j
      have hle := HLE.out j
      have HS := Lib.hid (HT.out j hlt)
      have HS2 := Lib.hid (HLE.out (j + 1))
      have hth := thick_iff.1 (HV.out _ (List.getElem_mem hlt))
      obtain ⟨c, hc⟩ : ∃ c, c = cs[j] := ⟨_, rfl⟩
      rw [← hc] at d0 d1 d2 d3 d4 d5 HS hth
      clear hc
      generalize hP : sumL (secF q) (cs.take j) = P at *
      have HPP := Lib.hid hP
      clear hP
      obtain ⟨hv, t1, t2, t3⟩ := hth
      have hv := valid_iff.1 hv
      have b2 : 0 ≤ c.hy - c.ly ∧ c.hy - c.ly ≤ 2097152 := by omega
      have b3 : 0 ≤ c.hz - c.lz ∧ c.hz - c.lz ≤ 2097152 := by omega
      have m1 : 0 ≤ (c.hy - c.ly) * (c.hz - c.lz) := Int.mul_nonneg b2.1 b3.1
      have m2 : (c.hy - c.ly) * (c.hz - c.lz) ≤ 4398046511104 := Int.le_trans (Int.mul_le_mul b2.2 b3.2 b3.1 (by omega)) (by decide)
      have h3 : areaB c = (c.hy - c.ly) * (c.hz - c.lz) := rfl
      clear t1 t2 t3
      by_cases hin : c.lx ≤ q ∧ q < c.hx
      · have t1 : decide (c.lx ≤ q) = true := by simpa using hin.1
        have t2 : decide (q < c.hx) = true := by simpa using hin.2
        have HF := Lib.hid (show secF q c = (c.hy - c.ly) * (c.hz - c.lz) from if_pos hin)
        clear hv hin
        go_wp2
        go_roundw
        case rel => exact ⟨j + 1, by omega, by go_num, by rw [HS.out, HF.out], ext_of (by (repeat (first | exact grow_refl _ | refine grow_ext _ ?_ | refine grow_alloc _ ?_ | refine grow_drew ?_)))⟩
        case measure => simp [intOf]; omega
      · have HF := Lib.hid (show secF q c = 0 from if_neg hin)
        by_cases h1 : c.lx ≤ q
        · have t1 : decide (c.lx ≤ q) = true := by simpa using h1
          have t2 : decide (q < c.hx) = false := by simp; omega
          clear hv hin
          go_wp2
          go_roundw
          case rel => exact ⟨j + 1, by omega, by go_num, by rw [HS.out, HF.out, Int.add_zero], ext_of (by (repeat (first | exact grow_refl _ | refine grow_ext _ ?_ | refine grow_alloc _ ?_ | refine grow_drew ?_)))⟩
          case measure => simp [intOf]; omega
        · have t1 : decide (c.lx ≤ q) = false := by simpa using h1
          clear hv hin
          go_wp2
          go_roundw
          case rel => exact ⟨j + 1, by omega, by go_num, by rw [HS.out, HF.out, Int.add_zero], ext_of (by (repeat (first | exact grow_refl _ | refine grow_ext _ ?_ | refine grow_alloc _ ?_ | refine grow_drew ?_)))⟩
          case measure => simp [intOf]; omega
    · have hj2 : j = cs.length := by omega
      subst hj2
      rw [HALL.out] at ⊢
      go_wp2
      go_ret
      exact Ret.of (by (repeat (first | exact grow_refl _ | exact HB.out | refine grow_ext _ ?_ | refine grow_alloc _ ?_ | refine grow_drew ?_)))

end Go.Proofs.YtofjopdcbmaijaaGreat


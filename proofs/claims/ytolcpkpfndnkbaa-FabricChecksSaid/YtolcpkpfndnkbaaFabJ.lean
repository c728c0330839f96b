/- The reference's Suffice. -/
import Derived.Test.YtolcpkpfndnkbaaFabI
namespace Go.Proofs.Ytolcpkpfndnkbaa
open Go.RowKit

theorem refValidF_v (b : Bx) (r : Bool) (h : validB b = r) (w : World) : Calls Try.prog 47 #[(.agg #[.int .i64 b.lx, .int .i64 b.ly, .int .i64 b.lz, .int .i64 b.hx, .int .i64 b.hy, .int .i64 b.hz])] w (Ret w (.bool r)) := by subst h; exact refValid_c b w
def suffB (f : Fb) (L W lap : Int) (l : List Bx) : Bool := l.all (sheetB f) && coversB (restL L W lap l) (slabX L W)

set_option maxRecDepth 100000 in
set_option maxHeartbeats 8000000 in
theorem refSuffice_c (f : Fb) (L W lap : Int) (l : List Bx) (v : Value) (hg : givenI f L W lap = 0) (hlen : l.length ≤ 40) (w : World) (hl : Boxes w v l) :
    Calls Try.prog 19 #[(.agg #[.string f.name, .int .i64 f.main, .int .i64 f.cross, .int .i64 f.length, .int .i64 f.width, .int .i64 f.mass]), .int .i64 L, .int .i64 W, .int .i64 lap, v] w (Ret w (.bool (suffB f L W lap l))) := by
  obtain ⟨av, cap, rfl, hcap, hcap2, _⟩ := hl.shape
  obtain ⟨hv, r1, r2⟩ := given_zero hg
  obtain ⟨q1, q2, q3⟩ := range_iff.1 r1
  obtain ⟨q4, q5, _⟩ := range_iff.1 r2
  have HL := Lib.hid hl
  have HRL := Lib.hid (rest_len L W lap l)
  have HSL := Lib.hid (slab_valid q1 q4)
  clear hl hg hv r1 r2
  go_enter Try.func19, Try.ntmps19
  go_wp2_with fail
  go_loopw [12, 11] (fun i v11 wr => ∃ k : Nat, k ≤ l.length ∧ i = .int .i64 k ∧ (∃ x, wr = ext (w.alloc (.cells #[.string f.name, .int .i64 f.main, .int .i64 f.cross, .int .i64 f.length, .int .i64 f.width, .int .i64 f.mass] 34)) x) ∧ wr.ownsRow (w.alloc (.cells #[.string f.name, .int .i64 f.main, .int .i64 f.cross, .int .i64 f.length, .int .i64 f.width, .int .i64 f.mass] 34)).heap.size 52 6 v11 (restL L W lap (l.take k)).length (boxCells (restL L W lap (l.take k))) ∧ (l.take k).all (sheetB f) = true) (fun i _ _ => l.length - (intOf i).toNat)
  case atStart => exact ⟨0, by omega, rfl, ext_of (by (repeat (first | exact grow_refl _ | refine grow_ext _ ?_ | refine grow_alloc _ ?_ | refine grow_drew ?_))), by simpa [restL, boxCells] using World.ownsRow_nil _ _ _ _, by simp⟩
  case round =>
    obtain ⟨k, hk, rfl, ⟨x3, rfl⟩, hO, hS⟩ := hrel
    have HO := Lib.hid hO
    have HS := Lib.hid hS
    clear hO hS
    by_cases hlt : k < l.length
    · obtain ⟨_, _, he, _, _, hcell⟩ := HL.out.shape
      cases he
      obtain ⟨b0, off, rfl, c0, c1, c2, c3, c4, c5⟩ := hcell k hlt
      clear hcell
      have HRS := Lib.hid (rest_snoc (L := L) (W := W) (lap := lap) hlt)
      have HAS := Lib.hid (fun h => all_take_succ (p := sheetB f) hlt h HS.out)
      have HAF := Lib.hid (fun h => all_false_of (p := sheetB f) hlt h)
      have hrk := rest_len L W lap (l.take k)
      have htl : (l.take k).length ≤ k := List.length_take_le k l
      have hrk2 : (restL L W lap (l.take k)).length ≤ 40 := by omega
      clear hrk htl
      have i1 : (0 : Int) ≤ (k : Int) := by omega
      have i2 : (k : Int) < (l.length : Int) := by omega
      have T0 : decide ((k : Int) < (l.length : Int)) = true := by simp; omega
      obtain ⟨b, hb⟩ : ∃ b, b = l[k] := ⟨_, rfl⟩
      rw [← hb] at c0 c1 c2 c3 c4 c5 HRS HAS HAF
      clear hb
      have HM := Lib.hid hrk2
      clear hrk2
      generalize restL L W lap (l.take k) = M at HO HRS HM
      obtain ⟨lx, ly, lz, hx, hy, hz⟩ := b
      dsimp only at c0 c1 c2 c3 c4 c5
      obtain ⟨ok, HK⟩ : ∃ r, Hid (sheetB f ⟨lx, ly, lz, hx, hy, hz⟩ = r) := ⟨_, Lib.hid rfl⟩
      go_upto_region 6 with fail
      go_cut [62] (fun s wx => s = .bool (!ok) ∧ ∃ x, wx = ext ((ext (w.alloc (.cells #[.string f.name, .int .i64 f.main, .int .i64 f.cross, .int .i64 f.length, .int .i64 f.width, .int .i64 f.mass] 34)) x3).alloc (.cells #[.int .i64 lx, .int .i64 ly, .int .i64 lz, .int .i64 hx, .int .i64 hy, .int .i64 hz] 52)) x)
      case first =>
        cases hv : validB ⟨lx, ly, lz, hx, hy, hz⟩
        · have hk0 : ok = false := by rw [← HK.out]; unfold sheetB; rw [hv]; rfl
          subst hk0
          have HV := Lib.hid hv
          clear hv
          go_wp2_with fail
          go_at_call 47; refine (refValidF_v ⟨lx, ly, lz, hx, hy, hz⟩ _ HV.out _).mono ?_; rintro e w' ⟨rfl, y1, rfl⟩
          go_wp2_with fail
          go_meet
          exact ⟨rfl, ext_of (by (repeat (first | exact grow_refl _ | refine grow_ext _ ?_ | refine grow_alloc _ ?_ | refine grow_drew ?_)))⟩
        · have hb := valid_iff.1 hv
          dsimp only at hb
          have HV := Lib.hid hv
          have hs := HK.out
          unfold sheetB at hs
          rw [hv] at hs
          dsimp only at hs
          clear hv
          by_cases z1 : lz = 0
          · subst z1
            by_cases z2 : hz = 0
            · subst z2
              have hs2 : (decide (hx - lx ≤ f.length) && decide (hy - ly ≤ f.width)) = ok := by simpa using hs
              by_cases d1 : hx - lx ≤ f.length
              · have e1 : decide (f.length < hx - lx) = false := by simp; omega
                by_cases d2 : hy - ly ≤ f.width
                · have hk0 : ok = true := by rw [← hs2]; simp [d1, d2]
                  subst hk0
                  have e2 : decide (f.width < hy - ly) = false := by simp; omega
                  clear hs hs2
                  go_wp2_with fail
                  go_at_call 47; refine (refValidF_v ⟨lx, ly, 0, hx, hy, 0⟩ _ HV.out _).mono ?_; rintro e w' ⟨rfl, y1, rfl⟩
                  go_wp2_with fail
                  go_meet
                  exact ⟨rfl, ext_of (by (repeat (first | exact grow_refl _ | refine grow_ext _ ?_ | refine grow_alloc _ ?_ | refine grow_drew ?_)))⟩
                · have hk0 : ok = false := by rw [← hs2]; simp [d2]
                  subst hk0
                  have e2 : decide (f.width < hy - ly) = true := by simp; omega
                  clear hs hs2
                  go_wp2_with fail
                  go_at_call 47; refine (refValidF_v ⟨lx, ly, 0, hx, hy, 0⟩ _ HV.out _).mono ?_; rintro e w' ⟨rfl, y1, rfl⟩
                  go_wp2_with fail
                  go_meet
                  exact ⟨rfl, ext_of (by (repeat (first | exact grow_refl _ | refine grow_ext _ ?_ | refine grow_alloc _ ?_ | refine grow_drew ?_)))⟩
              · have hk0 : ok = false := by rw [← hs2]; simp [d1]
                subst hk0
                have e1 : decide (f.length < hx - lx) = true := by simp; omega
                clear hs hs2
                go_wp2_with fail
                go_at_call 47; refine (refValidF_v ⟨lx, ly, 0, hx, hy, 0⟩ _ HV.out _).mono ?_; rintro e w' ⟨rfl, y1, rfl⟩
                go_wp2_with fail
                go_meet
                exact ⟨rfl, ext_of (by (repeat (first | exact grow_refl _ | refine grow_ext _ ?_ | refine grow_alloc _ ?_ | refine grow_drew ?_)))⟩
            · have b2 : (hz == 0) = false := by simpa using z2
              have hk0 : ok = false := by rw [← hs]; simp [z2]
              subst hk0
              clear hs
              go_wp2_with fail
              go_at_call 47; refine (refValidF_v ⟨lx, ly, 0, hx, hy, hz⟩ _ HV.out _).mono ?_; rintro e w' ⟨rfl, y1, rfl⟩
              go_wp2_with fail
              go_meet
              exact ⟨by simp [z2], ext_of (by (repeat (first | exact grow_refl _ | refine grow_ext _ ?_ | refine grow_alloc _ ?_ | refine grow_drew ?_)))⟩
          · have b1 : (lz == 0) = false := by simpa using z1
            have hk0 : ok = false := by rw [← hs]; simp [z1]
            subst hk0
            clear hs
            go_wp2_with fail
            go_at_call 47; refine (refValidF_v ⟨lx, ly, lz, hx, hy, hz⟩ _ HV.out _).mono ?_; rintro e w' ⟨rfl, y1, rfl⟩
            go_wp2_with fail
            go_meet
            exact ⟨by simp [z1], ext_of (by (repeat (first | exact grow_refl _ | refine grow_ext _ ?_ | refine grow_alloc _ ?_ | refine grow_drew ?_)))⟩
      case rest =>
        obtain ⟨rfl, x4, rfl⟩ := hcut
        cases ok
        · have HF := Lib.hid (show suffB f L W lap l = false by unfold suffB; rw [HAF.out HK.out]; rfl)
          clear c0 c1 c2 c3 c4 c5
          go_wp2
          go_ret
          rw [HF.out]
          exact Ret.of (by (repeat (first | exact grow_refl _ | refine grow_ext _ ?_ | refine grow_alloc _ ?_ | refine grow_drew ?_)))
        · have HAN := Lib.hid (HAS.out HK.out)
          have hvb := valid_iff.1 (sheetB_iff.1 HK.out).1
          dsimp only at hvb
          clear c0 c1 c2 c3 c4 c5
          by_cases hx1 : hx < L <;> by_cases hy1 : hy < W
          all_goals
            by_cases hlf : leftB (trimX L W lap ⟨lx, ly, lz, hx, hy, hz⟩) = true
            · have h := hlf
              unfold leftB trimX cutI at h
              simp only [hx1, hy1, if_true, if_false, Bool.and_eq_true, decide_eq_true_eq] at h
              obtain ⟨e1, e2⟩ := h
              have HX := Lib.hid (show restL L W lap (l.take (k + 1)) = M ++ [trimX L W lap ⟨lx, ly, lz, hx, hy, hz⟩] by rw [HRS.out, if_pos hlf])
              clear hlf
              go_wp2_with (at_builtin; refine app_own rfl _ _ 35 rfl 52 (.agg #[.int .i64 0, .int .i64 0, .int .i64 0, .int .i64 0, .int .i64 0, .int .i64 0]) 6 48 Try.underlying35 info_box rfl (by decide) (w.alloc (.cells #[.string f.name, .int .i64 f.main, .int .i64 f.cross, .int .i64 f.length, .int .i64 f.width, .int .i64 f.mass] 34)) _ _ _ _ rfl ((own_ext (HO.out.alloc _) x4).alloc _) _ 1 1 (boxCells [trimX L W lap ⟨lx, ly, lz, hx, hy, hz⟩]) rfl rfl (cells_new ?_ _ _ _ ?_) (by simp [Value.oneCell', boxCells]) ?_ (by decide) ?_ ?_; (simp [size_ext]); (simp [boxCells, trimX, cutI, hx1, hy1]); (have := HM.out; omega); (repeat (first | exact grow_refl _ | refine grow_ext _ ?_ | refine grow_alloc _ ?_ | refine grow_drew ?_)); intro v' x' hown3 hgrow)
              clear hgrow
              go_roundw
              case rel => exact ⟨k + 1, by omega, by go_num, ⟨_, rfl⟩, by rw [HX.out, boxCells_append, List.length_append]; exact hown3, HAN.out⟩
              case measure => simp [intOf]; omega
            · have HX := Lib.hid (show restL L W lap (l.take (k + 1)) = M by rw [HRS.out, if_neg hlf, List.append_nil])
              have h := hlf
              unfold leftB trimX cutI at h
              simp only [hx1, hy1, if_true, if_false, Bool.and_eq_true, decide_eq_true_eq] at h
              clear hlf
              rcases not_and_cases h with h' | ⟨h1', h2'⟩
              · have d1 := decide_eq_false h'
                clear h
                first
                  | (exfalso; omega)
                  | (go_wp2_with fail
                     go_roundw
                     case rel => exact ⟨k + 1, by omega, by go_num, ext_of (by (repeat (first | exact grow_refl _ | refine grow_ext _ ?_ | refine grow_alloc _ ?_ | refine grow_drew ?_))), by rw [HX.out]; exact own_ext (HO.out.alloc _) x4, HAN.out⟩
                     case measure => simp [intOf]; omega)
              · have d1 := decide_eq_true h1'
                have d2 := decide_eq_false h2'
                clear h
                first
                  | (exfalso; omega)
                  | (go_wp2_with fail
                     go_roundw
                     case rel => exact ⟨k + 1, by omega, by go_num, ext_of (by (repeat (first | exact grow_refl _ | refine grow_ext _ ?_ | refine grow_alloc _ ?_ | refine grow_drew ?_))), by rw [HX.out]; exact own_ext (HO.out.alloc _) x4, HAN.out⟩
                     case measure => simp [intOf]; omega)
    · obtain rfl : k = l.length := by omega
      have hO := HO.out
      have hS := HS.out
      rw [List.take_length] at hO hS
      have HOO := Lib.hid hO
      have HS2 := Lib.hid hS
      have HV := Lib.hid (rest_valid (L := L) (W := W) (lap := lap) (by omega) (fun b hb => List.all_eq_true.1 hS b hb))
      have HF := Lib.hid (show suffB f L W lap l = coversB (restL L W lap l) (slabX L W) by unfold suffB; rw [HS2.out]; rfl)
      clear hO hS HO HS
      go_wp2_with fail
      go_at_call 48; refine (refCovers_c (restL L W lap l) _ (slabX L W) _ (Boxes.of_own HOO.out) (by have := HRL.out; omega) (Ord.of_valid HSL.out)).mono ?_; rintro e w' ⟨rfl, x4, rfl⟩
      go_wp2
      go_ret
      rw [HF.out]
      exact Ret.of (by (repeat (first | exact grow_refl _ | refine grow_ext _ ?_ | refine grow_alloc _ ?_ | refine grow_drew ?_)))

end Go.Proofs.Ytolcpkpfndnkbaa

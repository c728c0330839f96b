/- RefL9, RefL10 in one text. -/
import Derived.Test.YtmhhohancconaaaGreatRefLK4
import Derived.Test.YtmhhohancconaaaGreatLaidK3
import Derived.Deep.DeepCutAuto
import Derived.Deep.CutBlock
namespace Go.Proofs.YtmhhohancconaaaGreat
open Go.RowKit
set_option maxRecDepth 20000

theorem countS_small {l : List Br} {rs : List Rn} (h : ∀ r ∈ rs, runB l r = true) : 0 ≤ countS rs ∧ countS rs ≤ 1000 * (rs.length : Int) := by
  induction rs with
  | nil => simp [countS]
  | cons r rs ih =>
    have h1 := runB_count (h r List.mem_cons_self)
    have h2 := ih fun x hx => h x (List.mem_cons_of_mem _ hx)
    simp only [countS, List.length_cons]; omega

end Go.Proofs.YtmhhohancconaaaGreat

namespace Go.Proofs.YtmhhohancconaaaGreat
open Go.RowKit
set_option maxRecDepth 20000

def shortB (b : Br) : Bool := decide (b.dims.length ≤ 8) && decide (b.mark.size ≤ 60)

set_option maxHeartbeats 2000000 in
theorem refShort_v (b : Br) (r : Bool) (h : shortB b = r) (w : World) (hb : BrOk w b) : Calls Tryz.prog 45 #[(.agg #[.string b.mark, .int .i64 b.size, .int .i64 b.count, .int .i64 b.code, b.dv])] w (Ret w (.bool r)) := by
  obtain ⟨a, cap, ev, _, _, _⟩ := hb.dims
  have hm := hb.mark
  unfold shortB at h
  clear hb
  obtain ⟨mark, size, count, code, dims, dv⟩ := b
  simp only at *
  subst ev
  by_cases h1 : dims.length ≤ 8
  · have d1 : decide ((dims.length : Int) ≤ 8) = true := by simp; omega
    rw [decide_eq_true h1, Bool.true_and] at h
    have d2 : decide ((mark.size : Int) ≤ 60) = r := by rw [← h]; apply decide_eq_decide.2; omega
    clear h
    go_enter Tryz.func45, Tryz.ntmps45
    go_wp2
    go_ret
    exact Ret.of (by (repeat (first | exact grow_refl _ | refine grow_ext _ ?_ | refine grow_alloc _ ?_ | refine grow_drew ?_)))
  · have d1 : decide ((dims.length : Int) ≤ 8) = false := by simp; omega
    rw [decide_eq_false h1, Bool.false_and] at h
    subst h
    go_enter Tryz.func45, Tryz.ntmps45
    go_wp2
    go_ret
    exact Ret.of (by (repeat (first | exact grow_refl _ | refine grow_ext _ ?_ | refine grow_alloc _ ?_ | refine grow_drew ?_)))

/-- Some Bool comes back. -/
def RetB (w : World) : Ending → World → Prop := fun e W => ∃ q, e = .returned (.bool q) ∧ ∃ x, W = ext w x
/-- Some Bool comes back; if it is true, then few bars are laid. -/
def RetSm (w : World) (rs : List Rn) (m : Int) : Ending → World → Prop := fun e W => ∃ q, e = .returned (.bool q) ∧ (q = true → (∀ r ∈ rs, 1 ≤ r.count ∧ r.count ≤ 1000) → rs.length ≤ 60 → countS rs ≤ m) ∧ ∃ x, W = ext w x

set_option maxRecDepth 100000 in
set_option maxHeartbeats 8000000 in
theorem refSmall16s_c (l : List Br) (rs : List Rn) (v u : Value) (n m : Int) (_ : 0 ≤ n ∧ n ≤ 100) (hm : 0 ≤ m ∧ m ≤ 100) (w : World) (hl : Bars w v l) (hr : Runs w u rs) :
    Calls Tryz.prog 20 #[v, u, .int .i64 n, .int .i64 m] w (RetSm w rs m) := by
  obtain ⟨b, bcap, rfl, g2, g3, g4⟩ := hl.shape
  have G4 := Lib.hid g4
  obtain ⟨a, cap, rfl, h2, h3, h4⟩ := hr.shape
  have H4 := Lib.hid h4
  clear hr h4 hl g4
  go_enter Tryz.func20, Tryz.ntmps20
  go_upto_region 1 with fail
  go_cut [41] (fun s wx => ∃ q0, s = .bool q0 ∧ (q0 = false → l.length ≤ 63 ∧ rs.length ≤ 63 ∧ ((rs.length : Int) ≤ n ∨ 60 < rs.length)) ∧ ∃ x, wx = ext w x)
  case first =>
    cases e1 : decide (n < (l.length : Int))
    · skip
      cases e3 : decide (63 < (l.length : Int))
      · skip
        cases e4 : decide (n < (rs.length : Int))
        · skip
          cases e6 : decide (63 < (rs.length : Int))
          · skip
            go_wp2
            go_meet
            exact ⟨_, rfl, fun h => by first | (cases h; done) | (simp at *; omega), ext_of (by (repeat (first | exact grow_refl _ | refine grow_ext _ ?_ | refine grow_alloc _ ?_ | refine grow_drew ?_)))⟩
          · skip
            go_wp2
            go_meet
            exact ⟨_, rfl, fun h => by first | (cases h; done) | (simp at *; omega), ext_of (by (repeat (first | exact grow_refl _ | refine grow_ext _ ?_ | refine grow_alloc _ ?_ | refine grow_drew ?_)))⟩
        · skip
          cases e5 : decide ((rs.length : Int) ≤ 60)
          · skip
            cases e6 : decide (63 < (rs.length : Int))
            · skip
              go_wp2
              go_meet
              exact ⟨_, rfl, fun h => by first | (cases h; done) | (simp at *; omega), ext_of (by (repeat (first | exact grow_refl _ | refine grow_ext _ ?_ | refine grow_alloc _ ?_ | refine grow_drew ?_)))⟩
            · skip
              go_wp2
              go_meet
              exact ⟨_, rfl, fun h => by first | (cases h; done) | (simp at *; omega), ext_of (by (repeat (first | exact grow_refl _ | refine grow_ext _ ?_ | refine grow_alloc _ ?_ | refine grow_drew ?_)))⟩
          · skip
            go_wp2
            go_meet
            exact ⟨_, rfl, fun h => by first | (cases h; done) | (simp at *; omega), ext_of (by (repeat (first | exact grow_refl _ | refine grow_ext _ ?_ | refine grow_alloc _ ?_ | refine grow_drew ?_)))⟩
      · skip
        go_wp2
        go_meet
        exact ⟨_, rfl, fun h => by first | (cases h; done) | (simp at *; omega), ext_of (by (repeat (first | exact grow_refl _ | refine grow_ext _ ?_ | refine grow_alloc _ ?_ | refine grow_drew ?_)))⟩
    · skip
      cases e2 : decide ((l.length : Int) ≤ 60)
      · skip
        cases e3 : decide (63 < (l.length : Int))
        · skip
          cases e4 : decide (n < (rs.length : Int))
          · skip
            cases e6 : decide (63 < (rs.length : Int))
            · skip
              go_wp2
              go_meet
              exact ⟨_, rfl, fun h => by first | (cases h; done) | (simp at *; omega), ext_of (by (repeat (first | exact grow_refl _ | refine grow_ext _ ?_ | refine grow_alloc _ ?_ | refine grow_drew ?_)))⟩
            · skip
              go_wp2
              go_meet
              exact ⟨_, rfl, fun h => by first | (cases h; done) | (simp at *; omega), ext_of (by (repeat (first | exact grow_refl _ | refine grow_ext _ ?_ | refine grow_alloc _ ?_ | refine grow_drew ?_)))⟩
          · skip
            cases e5 : decide ((rs.length : Int) ≤ 60)
            · skip
              cases e6 : decide (63 < (rs.length : Int))
              · skip
                go_wp2
                go_meet
                exact ⟨_, rfl, fun h => by first | (cases h; done) | (simp at *; omega), ext_of (by (repeat (first | exact grow_refl _ | refine grow_ext _ ?_ | refine grow_alloc _ ?_ | refine grow_drew ?_)))⟩
              · skip
                go_wp2
                go_meet
                exact ⟨_, rfl, fun h => by first | (cases h; done) | (simp at *; omega), ext_of (by (repeat (first | exact grow_refl _ | refine grow_ext _ ?_ | refine grow_alloc _ ?_ | refine grow_drew ?_)))⟩
            · skip
              go_wp2
              go_meet
              exact ⟨_, rfl, fun h => by first | (cases h; done) | (simp at *; omega), ext_of (by (repeat (first | exact grow_refl _ | refine grow_ext _ ?_ | refine grow_alloc _ ?_ | refine grow_drew ?_)))⟩
        · skip
          go_wp2
          go_meet
          exact ⟨_, rfl, fun h => by first | (cases h; done) | (simp at *; omega), ext_of (by (repeat (first | exact grow_refl _ | refine grow_ext _ ?_ | refine grow_alloc _ ?_ | refine grow_drew ?_)))⟩
      · skip
        go_wp2
        go_meet
        exact ⟨_, rfl, fun h => by first | (cases h; done) | (simp at *; omega), ext_of (by (repeat (first | exact grow_refl _ | refine grow_ext _ ?_ | refine grow_alloc _ ?_ | refine grow_drew ?_)))⟩
  case rest =>
    obtain ⟨q0, rfl, hq0, x0, rfl⟩ := hcut
    cases q0
    · obtain ⟨l63, r63, hn60⟩ := hq0 rfl
      have HN6 := Lib.hid hn60
      clear hq0 hn60
      go_wp2_with fail
      go_loopw [9] (fun i wr => ∃ (k : Nat), k ≤ l.length ∧ i = .int .i64 k ∧ (∃ x, wr = ext w x)) (fun i _ => l.length - (intOf i).toNat)
      case atStart => exact ⟨0, by omega, rfl, ext_of (by (repeat (first | exact grow_refl _ | refine grow_ext _ ?_ | refine grow_alloc _ ?_ | refine grow_drew ?_)))⟩
      case round =>
        obtain ⟨k, hk, rfl, ⟨x, rfl⟩⟩ := hrel
        by_cases hlt : k < l.length
        · obtain ⟨hok, b0, off, rfl, hbr⟩ := G4.out k hlt
          have q1 : (0 : Int) ≤ (k : Int) := by omega
          have q2 : (k : Int) < (l.length : Int) := by omega
          obtain ⟨c, hc⟩ : ∃ c, l[k] = c := ⟨_, rfl⟩
          rw [hc] at hbr hok
          obtain ⟨c0, c1, c2, c3, c4⟩ := hbr.ext x
          have HOK := Lib.hid hok
          clear hc hbr hok
          cases hs : shortB c
          all_goals
            have HS := Lib.hid hs
            clear hs
            go_wp2_with fail
            go_at_call 45; refine (refShort_v c _ HS.out _ (HOK.out.below (by (repeat (first | exact grow_refl _ | refine grow_ext _ ?_ | refine grow_alloc _ ?_ | refine grow_drew ?_))))).mono ?_; rintro e w' ⟨rfl, y1, rfl⟩
            go_wp2
          · go_ret
            exact ⟨_, rfl, fun h => (by cases h), ext_of (by (repeat (first | exact grow_refl _ | refine grow_ext _ ?_ | refine grow_alloc _ ?_ | refine grow_drew ?_)))⟩
          · go_roundw
            case rel => exact ⟨k + 1, by omega, by go_num, ext_of (by (repeat (first | exact grow_refl _ | refine grow_ext _ ?_ | refine grow_alloc _ ?_ | refine grow_drew ?_)))⟩
            case measure => simp [intOf]; omega
        · obtain rfl : k = l.length := by omega
          go_wp2_with fail
          go_loopw [10, 11] (fun s i wr => ∃ (k : Nat) (R : Int), k ≤ rs.length ∧ i = .int .i64 k ∧ s = .int .i64 R ∧ (0 ≤ R ∧ R ≤ 100 * (k : Int)) ∧ ((∀ r ∈ rs, 1 ≤ r.count ∧ r.count ≤ 1000) → R = countS (rs.take k)) ∧ (∃ x, wr = ext w x)) (fun _ i _ => rs.length - (intOf i).toNat)
          case atStart => exact ⟨0, 0, by omega, rfl, rfl, by omega, fun _ => rfl, ext_of (by (repeat (first | exact grow_refl _ | refine grow_ext _ ?_ | refine grow_alloc _ ?_ | refine grow_drew ?_)))⟩
          case round =>
            obtain ⟨k, R, hk, rfl, rfl, hR, hri, ⟨x, rfl⟩⟩ := hrel
            obtain ⟨R0, R1⟩ := hR
            have HRI := Lib.hid hri
            clear hri
            by_cases hlt : k < rs.length
            · obtain ⟨hmk, b0, off, rfl, hbr⟩ := H4.out k hlt
              have q1 : (0 : Int) ≤ (k : Int) := by omega
              have q2 : (k : Int) < (rs.length : Int) := by omega
              have hct := count_take hlt
              have hme := List.getElem_mem hlt
              obtain ⟨r, hr⟩ : ∃ r, rs[k] = r := ⟨_, rfl⟩
              rw [hr] at hbr hmk hct hme
              have HCT := Lib.hid hct
              have HME := Lib.hid hme
              obtain ⟨c0, c1, c2, c3, c4, c5, c6, c7, c8, c9⟩ := hbr.ext x
              clear hr hbr hct hme
              cases f1 : decide (60 < (r.mark.size : Int))
              · skip
                cases f2 : decide (m < r.count)
                · skip
                  cases f4 : decide (0 < r.count)
                  · skip
                    go_wp2
                    go_roundw
                    case rel => exact ⟨k + 1, R, by omega, by go_num, rfl, by omega, fun hc => by have h1 := HRI.out hc; have h2 := HCT.out; have h3 := hc _ HME.out; have p_f2 := of_decide_eq_false f2; have p_f4 := of_decide_eq_false f4; omega, ext_of (by (repeat (first | exact grow_refl _ | refine grow_ext _ ?_ | refine grow_alloc _ ?_ | refine grow_drew ?_)))⟩
                    case measure => simp [intOf]; omega
                  · skip
                    cases f5 : decide (r.count ≤ m)
                    · skip
                      go_wp2
                      go_roundw
                      case rel => exact ⟨k + 1, R, by omega, by go_num, rfl, by omega, fun hc => by have h1 := HRI.out hc; have h2 := HCT.out; have h3 := hc _ HME.out; have p_f2 := of_decide_eq_false f2; have p_f5 := of_decide_eq_false f5; omega, ext_of (by (repeat (first | exact grow_refl _ | refine grow_ext _ ?_ | refine grow_alloc _ ?_ | refine grow_drew ?_)))⟩
                      case measure => simp [intOf]; omega
                    · skip
                      have p1 : 0 < r.count := by simpa using f4
                      have p2 : r.count ≤ m := by simpa using f5
                      go_wp2
                      go_roundw
                      case rel => exact ⟨k + 1, R + r.count, by omega, by go_num, rfl, by omega, fun hc => by have h1 := HRI.out hc; have h2 := HCT.out; have h3 := hc _ HME.out; omega, ext_of (by (repeat (first | exact grow_refl _ | refine grow_ext _ ?_ | refine grow_alloc _ ?_ | refine grow_drew ?_)))⟩
                      case measure => simp [intOf]; omega
                · skip
                  cases f3 : decide (r.count ≤ 2000)
                  · skip
                    cases f4 : decide (0 < r.count)
                    · skip
                      go_wp2
                      go_roundw
                      case rel => exact ⟨k + 1, R, by omega, by go_num, rfl, by omega, fun hc => by have h1 := HRI.out hc; have h2 := HCT.out; have h3 := hc _ HME.out; have p_f3 := of_decide_eq_false f3; omega, ext_of (by (repeat (first | exact grow_refl _ | refine grow_ext _ ?_ | refine grow_alloc _ ?_ | refine grow_drew ?_)))⟩
                      case measure => simp [intOf]; omega
                    · skip
                      cases f5 : decide (r.count ≤ m)
                      · skip
                        go_wp2
                        go_roundw
                        case rel => exact ⟨k + 1, R, by omega, by go_num, rfl, by omega, fun hc => by have h1 := HRI.out hc; have h2 := HCT.out; have h3 := hc _ HME.out; have p_f3 := of_decide_eq_false f3; omega, ext_of (by (repeat (first | exact grow_refl _ | refine grow_ext _ ?_ | refine grow_alloc _ ?_ | refine grow_drew ?_)))⟩
                        case measure => simp [intOf]; omega
                      · skip
                        have p1 : 0 < r.count := by simpa using f4
                        have p2 : r.count ≤ m := by simpa using f5
                        go_wp2
                        go_roundw
                        case rel => exact ⟨k + 1, R + r.count, by omega, by go_num, rfl, by omega, fun hc => by have h1 := HRI.out hc; have h2 := HCT.out; have h3 := hc _ HME.out; have p_f3 := of_decide_eq_false f3; omega, ext_of (by (repeat (first | exact grow_refl _ | refine grow_ext _ ?_ | refine grow_alloc _ ?_ | refine grow_drew ?_)))⟩
                        case measure => simp [intOf]; omega
                  · skip
                    go_wp2
                    go_ret
                    exact ⟨_, rfl, fun h => (by cases h), ext_of (by (repeat (first | exact grow_refl _ | refine grow_ext _ ?_ | refine grow_alloc _ ?_ | refine grow_drew ?_)))⟩
              · skip
                go_wp2
                go_ret
                exact ⟨_, rfl, fun h => (by cases h), ext_of (by (repeat (first | exact grow_refl _ | refine grow_ext _ ?_ | refine grow_alloc _ ?_ | refine grow_drew ?_)))⟩
            · obtain rfl : k = rs.length := by omega
              cases g1 : decide (R ≤ m)
              · cases g2 : decide (n < (rs.length : Int))
                all_goals
                  go_wp2
                  go_ret
                  exact ⟨_, rfl, fun h _ h60 => by first | (cases h; done) | (have := of_decide_eq_true g2; have := HN6.out; omega), ext_of (by (repeat (first | exact grow_refl _ | refine grow_ext _ ?_ | refine grow_alloc _ ?_ | refine grow_drew ?_)))⟩
              · go_wp2
                go_ret
                exact ⟨_, rfl, fun _ hc _ => by (have h1 := HRI.out hc; rw [List.take_length] at h1; have := of_decide_eq_true g1; omega), ext_of (by (repeat (first | exact grow_refl _ | refine grow_ext _ ?_ | refine grow_alloc _ ?_ | refine grow_drew ?_)))⟩
    · clear hq0
      go_wp2
      go_ret
      exact ⟨_, rfl, fun h => (by cases h), ext_of (by (repeat (first | exact grow_refl _ | refine grow_ext _ ?_ | refine grow_alloc _ ?_ | refine grow_drew ?_)))⟩

theorem refSmall16_c (l : List Br) (rs : List Rn) (v u : Value) (n m : Int) (hn : 0 ≤ n ∧ n ≤ 100) (hm : 0 ≤ m ∧ m ≤ 100) (w : World) (hl : Bars w v l) (hr : Runs w u rs) :
    Calls Tryz.prog 20 #[v, u, .int .i64 n, .int .i64 m] w (RetB w) :=
  (refSmall16s_c l rs v u n m hn hm w hl hr).mono fun _ _ ⟨q, h1, _, h3⟩ => ⟨q, h1, h3⟩

end Go.Proofs.YtmhhohancconaaaGreat


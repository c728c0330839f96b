/- The fabric for two areas: fabric.Choose and the reference's. -/
import Derived.Test.YtolcpkpfndnkbaaFabK
namespace Go.Proofs.Ytolcpkpfndnkbaa
open Go.RowKit

def lightB (a b : Fb) : Bool := decide (a.mass * b.length * b.width < b.mass * a.length * a.width)
def hasB (f : Fb) (m c : Int) : Bool := decide (m ≤ f.main) && decide (c ≤ f.cross)
def stepC (m c : Int) (best : Option (Nat × Fb)) (k : Nat) (f : Fb) : Option (Nat × Fb) :=
  if hasB f m c = true then (match best with
    | none => some (k, f)
    | some p => if lightB f p.2 = true then some (k, f) else some p) else best
def chooseN (l : List Fb) (m c : Int) : Nat → Option (Nat × Fb)
  | 0 => none
  | k + 1 => match l[k]? with
    | some f => stepC m c (chooseN l m c k) k f
    | none => chooseN l m c k
def bestI : Option (Nat × Fb) → Int
  | none => -1
  | some p => p.1
theorem choose_succ {l : List Fb} {m c : Int} {k : Nat} (h : k < l.length) : chooseN l m c (k + 1) = stepC m c (chooseN l m c k) k l[k] := by
  show (match l[k]? with | some f => stepC m c (chooseN l m c k) k f | none => chooseN l m c k) = _
  rw [List.getElem?_eq_getElem h]
theorem choose_in {l : List Fb} {m c : Int} {k j : Nat} {g : Fb} (hk : k ≤ l.length) (h : chooseN l m c k = some (j, g)) : j < k ∧ l[j]? = some g ∧ hasB g m c = true := by
  induction k generalizing j g with
  | zero => cases h
  | succ k ih =>
    rw [choose_succ (by omega)] at h
    unfold stepC at h
    by_cases hb : hasB l[k] m c = true
    · rw [if_pos hb] at h
      cases hc : chooseN l m c k with
      | none =>
        rw [hc] at h
        cases h
        exact ⟨by omega, List.getElem?_eq_getElem (by omega), hb⟩
      | some p =>
        rw [hc] at h
        dsimp only at h
        by_cases hl : lightB l[k] p.2 = true
        · rw [if_pos hl] at h
          cases h
          exact ⟨by omega, List.getElem?_eq_getElem (by omega), hb⟩
        · rw [if_neg hl] at h
          cases h
          have := ih (by omega) hc
          exact ⟨by omega, this.2⟩
    · rw [if_neg hb] at h
      have := ih (by omega) h
      exact ⟨by omega, this.2⟩
theorem fabTo_mem {l : List Fb} {k n : Nat} (h : fabTo l n = true) (hk : k < n) (hl : k < l.length) : fbOk l[k] = true := by
  cases hs : fabTo l (k + 1)
  · rw [fabTo_false (show k + 1 ≤ n by omega) hs] at h; cases h
  · rw [fabTo_succ hl] at hs
    simp only [Bool.and_eq_true] at hs
    exact hs.2.1
theorem fabs_mem {l : List Fb} (h : fabsB l = true) {k : Nat} (hl : k < l.length) : fbOk l[k] = true := by
  unfold fabsB at h
  rw [Bool.and_eq_true] at h
  exact fabTo_mem h.2 hl hl

/-- The two products that are compared, and that they fit. -/
theorem light_bounds {a b : Fb} (ha : fbOk a = true) (hb : fbOk b = true) : (0 ≤ a.mass * b.length ∧ a.mass * b.length ≤ 335544320000) ∧ (0 ≤ a.mass * b.length * b.width ∧ a.mass * b.length * b.width ≤ 6710886400000000) := by
  have h1 := (fb_bounds ha).2.2.2.2
  have h2 := (fb_bounds hb).2.2.1
  have h3 := (fb_bounds hb).2.2.2.1
  have p : 0 ≤ a.mass * b.length ∧ a.mass * b.length ≤ 335544320000 := ⟨Int.mul_nonneg (by omega) (by omega), Int.le_trans (Int.mul_le_mul h1.2 h2.2 (by omega) (by omega)) (by decide)⟩
  exact ⟨p, Int.mul_nonneg p.1 (by omega), Int.le_trans (Int.mul_le_mul p.2 h3.2 (by omega) (by omega)) (by decide)⟩

def chooseR (l : List Fb) (m c : Int) : Int × Int :=
  if fabsB l = true then (match chooseN l m c l.length with
    | none => (0, 12)
    | some p => ((p.1 : Int), 0)) else (0, 1)

set_option maxRecDepth 100000 in
set_option maxHeartbeats 4000000 in
theorem choose_c (l : List Fb) (v : Value) (m c : Int) (w : World) (hl : Fabs w v l) :
    Calls Try.prog 27 #[v, .int .i64 m, .int .i64 c] w (Ret w (.tuple #[.int .i64 (chooseR l m c).1, .int .i64 (chooseR l m c).2])) := by
  obtain ⟨a, cap, rfl, hcap, hcap2, hcell⟩ := hl.shape
  have HC := Lib.hid hcell
  have HL := Lib.hid hl
  clear hcell hl
  cases hv : fabsB l
  · have HR := Lib.hid (show chooseR l m c = (0, 1) by unfold chooseR; rw [hv]; rfl)
    have HV := Lib.hid hv
    clear hv
    go_enter Try.func27, Try.ntmps27
    go_wp2_with fail
    go_at_call 28; refine (fabValid_c l _ _ (HL.out.below (by (repeat (first | exact grow_refl _ | refine grow_ext _ ?_ | refine grow_alloc _ ?_ | refine grow_drew ?_))))).mono ?_; rintro e w' ⟨rfl, x1, rfl⟩
    rw [HV.out]
    go_wp2
    go_ret2
    rw [HR.out]
    exact Ret.of (by (repeat (first | exact grow_refl _ | refine grow_ext _ ?_ | refine grow_alloc _ ?_ | refine grow_drew ?_)))
  have HV := Lib.hid hv
  clear hv
  go_enter Try.func27, Try.ntmps27
  go_wp2_with fail
  go_at_call 28; refine (fabValid_c l _ _ (HL.out.below (by (repeat (first | exact grow_refl _ | refine grow_ext _ ?_ | refine grow_alloc _ ?_ | refine grow_drew ?_))))).mono ?_; rintro e w' ⟨rfl, x1, rfl⟩
  rw [HV.out]
  go_wp2_with fail
  go_loopw [16, 8] (fun i b wr => ∃ k : Nat, k ≤ l.length ∧ i = .int .i64 k ∧ (∃ x, wr = ext w x) ∧ b = .int .i64 (bestI (chooseN l m c k))) (fun i _ _ => l.length - (intOf i).toNat)
  case atStart => exact ⟨0, Nat.zero_le _, rfl, ext_of (by (repeat (first | exact grow_refl _ | refine grow_ext _ ?_ | refine grow_alloc _ ?_ | refine grow_drew ?_))), rfl⟩
  case round =>
    obtain ⟨k, hk, rfl, ⟨x, rfl⟩, rfl⟩ := hrel
    by_cases hlt : k < l.length
    · obtain ⟨hns, b0, off, rfl, c0, c1, c2, c3, c4, c5⟩ := HC.out k hlt
      have HS := Lib.hid (choose_succ (m := m) (c := c) hlt)
      have HOK := Lib.hid (fabs_mem HV.out hlt)
      obtain ⟨f, hf⟩ : ∃ f, f = l[k] := ⟨_, rfl⟩
      rw [← hf] at hns c0 c1 c2 c3 c4 c5 HS HOK
      clear hf
      have HIN := Lib.hid (fun j g => choose_in (l := l) (m := m) (c := c) (k := k) (j := j) (g := g) hk)
      cases hb : hasB f m c
      · have HN := Lib.hid (show chooseN l m c (k + 1) = chooseN l m c k by rw [HS.out]; unfold stepC; rw [hb]; rfl)
        unfold hasB at hb
        generalize chooseN l m c k = best at HN HIN
        by_cases hm : m ≤ f.main
        · have hc : f.cross < c := by simp [hm] at hb; omega
          clear hb
          go_wp2
          go_roundw
          case rel => exact ⟨k + 1, by omega, by go_num, ext_of (by (repeat (first | exact grow_refl _ | refine grow_ext _ ?_ | refine grow_alloc _ ?_ | refine grow_drew ?_))), by rw [HN.out]⟩
          case measure => simp [intOf]; omega
        · have hm' : f.main < m := by omega
          clear hb hm
          go_wp2
          go_roundw
          case rel => exact ⟨k + 1, by omega, by go_num, ext_of (by (repeat (first | exact grow_refl _ | refine grow_ext _ ?_ | refine grow_alloc _ ?_ | refine grow_drew ?_))), by rw [HN.out]⟩
          case measure => simp [intOf]; omega
      · have hb' := hb
        unfold hasB at hb'
        simp only [Bool.and_eq_true, decide_eq_true_eq] at hb'
        obtain ⟨hm, hc⟩ := hb'
        cases hbest : chooseN l m c k with
        | none =>
          have HN := Lib.hid (show chooseN l m c (k + 1) = some (k, f) by rw [HS.out, hbest]; unfold stepC; rw [hb]; rfl)
          clear hb hbest
          simp only [bestI]
          go_wp2_with fail
          refine wp_region_grows (by kernel_rfl) (by kernel_rfl) ?_
          repeat (go_big_quiet_step (fail))
          refine wpQuiet_nil ?_; rintro _ ⟨xq, rfl⟩
          go_wp2
          go_roundw
          case rel => exact ⟨k + 1, by omega, by go_num, ext_of (by (repeat (first | exact grow_refl _ | refine grow_ext _ ?_ | refine grow_alloc _ ?_ | refine grow_drew ?_))), by rw [HN.out]⟩
          case measure => simp [intOf]; omega
        | some p =>
          obtain ⟨j, g⟩ := p
          obtain ⟨hjk, hjg, _⟩ := HIN.out j g hbest
          have hjl : j < l.length := by omega
          obtain ⟨_, b1, off1, e1, _, _, _, d3, d4, d5⟩ := HC.out j hjl
          cases e1
          rw [List.getElem?_eq_getElem hjl] at hjg
          have hg : l[j] = g := by injection hjg
          have hgk : fbOk g = true := by rw [← hg]; exact fabs_mem HV.out hjl
          rw [hg] at d3 d4 d5
          have B1 := light_bounds HOK.out hgk
          have B2 := light_bounds hgk HOK.out
          obtain ⟨⟨u1, u2⟩, ⟨u3, u4⟩⟩ := B1
          obtain ⟨⟨s1, s2⟩, ⟨s3, s4⟩⟩ := B2
          have i1 : (0 : Int) ≤ (j : Int) := by omega
          have i2 : (j : Int) < (l.length : Int) := by omega
          have i3 : decide ((j : Int) < 0) = false := by simp
          cases hlb : lightB f g
          · have HN := Lib.hid (show chooseN l m c (k + 1) = some (j, g) by rw [HS.out, hbest]; unfold stepC; rw [hb, if_pos rfl]; dsimp only; rw [hlb]; rfl)
            have hld : decide (f.mass * g.length * g.width < g.mass * f.length * f.width) = false := hlb
            clear hb hbest hg hjg hgk hlb
            simp only [bestI]
            go_wp2_with fail
            refine wp_region_grows (by kernel_rfl) (by kernel_rfl) ?_
            repeat (go_big_quiet_step (fail))
            refine wpQuiet_nil ?_; rintro _ ⟨xq, rfl⟩
            go_wp2
            go_roundw
            case rel => exact ⟨k + 1, by omega, by go_num, ext_of (by (repeat (first | exact grow_refl _ | refine grow_ext _ ?_ | refine grow_alloc _ ?_ | refine grow_drew ?_))), by rw [HN.out]⟩
            case measure => simp [intOf]; omega
          · have HN := Lib.hid (show chooseN l m c (k + 1) = some (k, f) by rw [HS.out, hbest]; unfold stepC; rw [hb, if_pos rfl]; dsimp only; rw [hlb]; rfl)
            have hld : decide (f.mass * g.length * g.width < g.mass * f.length * f.width) = true := hlb
            clear hb hbest hg hjg hgk hlb
            simp only [bestI]
            go_wp2_with fail
            refine wp_region_grows (by kernel_rfl) (by kernel_rfl) ?_
            repeat (go_big_quiet_step (fail))
            refine wpQuiet_nil ?_; rintro _ ⟨xq, rfl⟩
            go_wp2
            go_roundw
            case rel => exact ⟨k + 1, by omega, by go_num, ext_of (by (repeat (first | exact grow_refl _ | refine grow_ext _ ?_ | refine grow_alloc _ ?_ | refine grow_drew ?_))), by rw [HN.out]⟩
            case measure => simp [intOf]; omega
    · obtain rfl : k = l.length := by omega
      have HR := Lib.hid (show chooseR l m c = (match chooseN l m c l.length with | none => (0, 12) | some p => ((p.1 : Int), 0)) by unfold chooseR; rw [HV.out, if_pos rfl])
      cases hbest : chooseN l m c l.length with
      | none =>
        rw [hbest] at HR
        clear hbest
        simp only [bestI]
        go_wp2
        go_ret2
        rw [HR.out]
        exact Ret.of (by (repeat (first | exact grow_refl _ | refine grow_ext _ ?_ | refine grow_alloc _ ?_ | refine grow_drew ?_)))
      | some p =>
        rw [hbest] at HR
        clear hbest
        obtain ⟨j, g⟩ := p
        simp only [bestI]
        have i3 : decide ((j : Int) < 0) = false := by simp
        go_wp2
        go_ret2
        rw [HR.out]
        exact Ret.of (by (repeat (first | exact grow_refl _ | refine grow_ext _ ?_ | refine grow_alloc _ ?_ | refine grow_drew ?_)))

set_option maxHeartbeats 1000000 in
theorem lighter_c (a b : Fb) (ha : fbOk a = true) (hb : fbOk b = true) (w : World) :
    Calls Try.prog 53 #[(.agg #[.string a.name, .int .i64 a.main, .int .i64 a.cross, .int .i64 a.length, .int .i64 a.width, .int .i64 a.mass]), (.agg #[.string b.name, .int .i64 b.main, .int .i64 b.cross, .int .i64 b.length, .int .i64 b.width, .int .i64 b.mass])] w (Ret w (.bool (lightB a b))) := by
  have B1 := light_bounds ha hb
  have B2 := light_bounds hb ha
  obtain ⟨⟨u1, u2⟩, ⟨u3, u4⟩⟩ := B1
  obtain ⟨⟨s1, s2⟩, ⟨s3, s4⟩⟩ := B2
  clear ha hb
  go_enter Try.func53, Try.ntmps53
  go_wp2_with fail
  first
    | (go_ret
       exact Ret.bool (by unfold lightB; rfl) (by (repeat (first | exact grow_refl _ | refine grow_ext _ ?_ | refine grow_alloc _ ?_ | refine grow_drew ?_))))
    | (refine wp_region_grows (by kernel_rfl) (by kernel_rfl) ?_
       repeat (go_big_quiet_step (fail))
       refine wpQuiet_nil ?_; rintro _ ⟨xq, rfl⟩
       go_wp2
       go_ret
       exact Ret.bool (by unfold lightB; rfl) (by (repeat (first | exact grow_refl _ | refine grow_ext _ ?_ | refine grow_alloc _ ?_ | refine grow_drew ?_))))

end Go.Proofs.Ytolcpkpfndnkbaa

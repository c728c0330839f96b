/- CoverLeast: the walk of the law. -/
import Derived.Test.YtdldbdffaffjoaaGreatLawCK
namespace Go.Proofs.YtdldbdffaffjoaaGreat
open Go.RowKit
set_option maxRecDepth 20000

def RetPos (w : World) (e : Ending) (W : World) : Prop := ∃ r : Int, e = .returned (.int .i64 r) ∧ 0 ≤ r ∧ ∃ x, W = ext w x
set_option maxRecDepth 100000 in
set_option maxHeartbeats 2000000 in
theorem indexFd_c (l : List ByteArray) (m : ByteArray) (v : Value) (hm : m ∈ l) (w : World) (hl : Fds w v l) :
    Calls Tryz.prog 59 #[v, .agg #[.int .i64 1, .string m]] w (RetPos w) := by
  obtain ⟨a, cap, rfl, hc1, hc2, hp⟩ := hl
  have HP := Lib.hid hp
  have HM := Lib.hid hm
  clear hp hm
  go_enter Tryz.func59, Tryz.ntmps59
  go_wp2_with fail
  refine world_mask (fun W => (∃ z, W = ext w z) ∧ FdAt W w.heap.size 0 m) _ ⟨ext_of (by (repeat (first | exact grow_refl _ | refine grow_ext _ ?_ | refine grow_alloc _ ?_ | refine grow_drew ?_))), by simp [FdAt, go_sem]⟩ ?_
  rintro W1 ⟨hbe, hf1⟩
  have HBE := Lib.hid hbe
  have HF1 := Lib.hid hf1
  clear hbe hf1
  go_loopw [8] (fun i wr => ∃ k : Nat, k ≤ l.length ∧ i = .int .i64 k ∧ (∀ j (h : j < k) (h' : j < l.length), (m.toList == l[j].toList) = false) ∧ (∃ x, wr = ext W1 x)) (fun i _ => l.length - (intOf i).toNat)
  case atStart => exact ⟨0, Nat.zero_le _, rfl, fun j h => absurd h (Nat.not_lt_zero _), ext_of (by (repeat (first | exact grow_refl _ | refine grow_ext _ ?_ | refine grow_alloc _ ?_ | refine grow_drew ?_)))⟩
  case round =>
    obtain ⟨k, hk, rfl, hno, ⟨x, rfl⟩⟩ := hrel
    have HNO := Lib.hid hno
    have hz : ∃ z, ext W1 x = ext w z := by obtain ⟨z, e⟩ := HBE.out; rw [e, ext_ext]; exact ⟨_, rfl⟩
    have HZ := Lib.hid hz
    clear hno hz
    by_cases hlt : k < l.length
    · obtain ⟨g, o, rfl, hcc⟩ := HP.out k hlt
      have hcc : FdAt W1 g (o + k * 2) l[k] := by
        obtain ⟨z, e⟩ := HBE.out
        rw [e]
        exact ⟨cell_ext_some hcc.1 z, cell_ext_some hcc.2 z⟩
      obtain ⟨c0, c1⟩ := hcc
      have c0 := cell_ext_some c0 x
      have c1 := cell_ext_some c1 x
      obtain ⟨d0, d1⟩ := HF1.out
      have d0 := cell_ext_some d0 x
      have d1 := cell_ext_some d1 x
      have i1 : (0 : Int) ≤ (k : Int) := by omega
      have i2 : (k : Int) < (l.length : Int) := by omega
      cases hp : (m.toList == l[k].toList)
      all_goals
        have HP2 := Lib.hid hp
        obtain ⟨mk, hmk⟩ : ∃ mk, l[k] = mk := ⟨_, rfl⟩
        rw [hmk] at hp c1
        clear hmk
        go_wp2_with fail
        refine wp_region_grows (by kernel_rfl) (by kernel_rfl) ?_
        repeat (go_big_quiet_step (fail))
        refine wpQuiet_nil ?_; rintro _ ⟨xq, rfl⟩
        go_wp2
      · go_roundw
        case rel => exact ⟨k + 1, by omega, by go_num, fun j h1 h2 => by
          rcases Nat.lt_or_ge j k with h | h
          · exact HNO.out j h h2
          · obtain rfl : j = k := by omega
            exact HP2.out, ext_of (by (repeat (first | exact grow_refl _ | refine grow_ext _ ?_ | refine grow_alloc _ ?_ | refine grow_drew ?_)))⟩
        case measure => simp [intOf]; omega
      · go_ret
        obtain ⟨z, ez⟩ := HZ.out
        rw [ez]
        exact ⟨_, rfl, by omega, ext_of (by (repeat (first | exact grow_refl _ | refine grow_ext _ ?_ | refine grow_alloc _ ?_ | refine grow_drew ?_)))⟩
    · obtain ⟨j, hj, ej⟩ := List.getElem_of_mem HM.out
      have := HNO.out j (by omega) hj
      rw [ej] at this
      simp at this
set_option maxHeartbeats 1000000 in
theorem containsFd_c (l : List ByteArray) (m : ByteArray) (v : Value) (hm : m ∈ l) (w : World) (hl : Fds w v l) :
    Calls Tryz.prog 30 #[v, .agg #[.int .i64 1, .string m]] w (Ret w (.bool true)) := by
  obtain ⟨a, cap, ev, -, -, -⟩ := hl.shape
  have HI := Lib.hid (fun w hl => indexFd_c l m v hm w hl)
  have HL := Lib.hid hl
  clear hl hm
  subst ev
  go_enter Tryz.func30, Tryz.ntmps30
  go_wp2_with fail
  go_at_call 59; refine (HI.out _ (HL.out.below (by (repeat (first | exact grow_refl _ | refine grow_ext _ ?_ | refine grow_alloc _ ?_ | refine grow_drew ?_))))).mono ?_; rintro e w' ⟨r, rfl, hr, x, rfl⟩
  have d1 : decide (0 ≤ r) = true := by simpa using hr
  go_wp2
  go_ret
  exact Ret.of (by (repeat (first | exact grow_refl _ | refine grow_ext _ ?_ | refine grow_alloc _ ?_ | refine grow_drew ?_)))

theorem least1_c (b : Br) (m : ByteArray) (g : Nat) (w : World) (hg : w.cell? ⟨g, 0, none⟩ = some (.string m)) : Calls Tryz.prog 29 #[(.agg #[.string b.mark, .int .i64 b.size, .int .i64 b.count, .int .i64 b.code, b.dv]), .pointer (some ⟨g, 0, none⟩)] w (Ret w (.bool (b.mark.toList == m.toList))) := by
  go_enter Tryz.func29, Tryz.ntmps29
  go_wp2
  go_ret
  exact Ret.of (by (repeat (first | exact grow_refl _ | refine grow_ext _ ?_ | refine grow_alloc _ ?_ | refine grow_drew ?_)))
theorem enters_least1 : Enters 29 := enters_of Tryz.func29 (by decide) (by simp [Tryz.f29])

set_option maxRecDepth 100000 in
set_option maxHeartbeats 4000000 in
theorem lawCL_err (q : Mb) (l : List Br) (rs : List Rn) (v u : Value) (k : Int) (h : ¬ (mbB q = true ∧ laidB l rs = true)) (w : World) (hq : MbAt w q) (hl : Bars w v l) (hr : Runs w u rs) :
    Calls Tryz.prog 6 #[(.agg #[.string q.name, q.u, q.t, .int .i64 q.cover, .int .i64 q.agg, .int .i64 q.poker]), v, u, .int .u8 k] w (Ret w (.bool true)) := by
  have HQ := Lib.hid hq
  have HL := Lib.hid hl
  have HR := Lib.hid hr
  have HCK := Lib.hid (fun w hq hl hr => (Check18_err q l rs v u h w hq hl hr).mono fun e W h => fds_nothing h)
  have HLE := Lib.hid (fun w hq hl hr => Least18_v q l rs v u 0 0 1 (by unfold leastX; rw [if_neg h]) w hq hl hr)
  clear hq hl hr h
  go_enter Tryz.func6, Tryz.ntmps6
  go_wp2_with fail
  go_at_call 7; refine (awake18_c _).mono ?_; rintro e w' ⟨rfl, x0, rfl⟩
  go_wp2_with fail
  go_at_call 8; refine (few18s_c q l rs v u _ (HQ.out.below (by (repeat (first | exact grow_refl _ | refine grow_ext _ ?_ | refine grow_alloc _ ?_ | refine grow_drew ?_)))) (HL.out.below (by (repeat (first | exact grow_refl _ | refine grow_ext _ ?_ | refine grow_alloc _ ?_ | refine grow_drew ?_)))) (HR.out.below (by (repeat (first | exact grow_refl _ | refine grow_ext _ ?_ | refine grow_alloc _ ?_ | refine grow_drew ?_))))).mono ?_; rintro e w' ⟨q0, rfl, -, x1, rfl⟩
  cases q0
  · go_wp2
    go_ret
    exact Ret.of (by (repeat (first | exact grow_refl _ | refine grow_ext _ ?_ | refine grow_alloc _ ?_ | refine grow_drew ?_)))
  go_wp2_with fail
  go_at_call 22; refine (HCK.out _ (HQ.out.below (by (repeat (first | exact grow_refl _ | refine grow_ext _ ?_ | refine grow_alloc _ ?_ | refine grow_drew ?_)))) (HL.out.below (by (repeat (first | exact grow_refl _ | refine grow_ext _ ?_ | refine grow_alloc _ ?_ | refine grow_drew ?_)))) (HR.out.below (by (repeat (first | exact grow_refl _ | refine grow_ext _ ?_ | refine grow_alloc _ ?_ | refine grow_drew ?_))))).mono ?_; rintro e w' ⟨a9, c9, rfl, k9, x2, rfl⟩
  go_wp2_with fail
  go_at_call 17; refine (HLE.out _ (HQ.out.below (by (repeat (first | exact grow_refl _ | refine grow_ext _ ?_ | refine grow_alloc _ ?_ | refine grow_drew ?_)))) (HL.out.below (by (repeat (first | exact grow_refl _ | refine grow_ext _ ?_ | refine grow_alloc _ ?_ | refine grow_drew ?_)))) (HR.out.below (by (repeat (first | exact grow_refl _ | refine grow_ext _ ?_ | refine grow_alloc _ ?_ | refine grow_drew ?_))))).mono ?_; rintro e w' ⟨rfl, x3, rfl⟩
  go_wp2
  go_ret
  exact Ret.of (by (repeat (first | exact grow_refl _ | refine grow_ext _ ?_ | refine grow_alloc _ ?_ | refine grow_drew ?_)))

set_option maxRecDepth 100000 in
set_option maxHeartbeats 4000000 in
theorem lawCL_none (q : Mb) (l : List Br) (rs : List Rn) (v u : Value) (k : Int) (hm : mbB q = true) (hv : laidB l rs = true) (hn : countS rs = 0) (w : World) (hq : MbAt w q) (hl : Bars w v l) (hr : Runs w u rs) :
    Calls Tryz.prog 6 #[(.agg #[.string q.name, q.u, q.t, .int .i64 q.cover, .int .i64 q.agg, .int .i64 q.poker]), v, u, .int .u8 k] w (Ret w (.bool true)) := by
  have HQ := Lib.hid hq
  have HL := Lib.hid hl
  have HR := Lib.hid hr
  have HCK := Lib.hid (fun w hq hl hr => (Check18_ok q l rs v u hm hv (by omega) w hq hl hr).mono fun e W h => by rw [hn] at h; exact fds_nothing h)
  have HLE := Lib.hid (fun w hq hl hr => Least18_v q l rs v u 0 0 14 (by unfold leastX; rw [if_pos ⟨hm, hv⟩, if_pos hn]) w hq hl hr)
  have HC := Lib.hid (fun w hl hr => count_c l rs v u w hl hr)
  rw [show countE l rs = (0, 0) by unfold countE; rw [if_pos hv, hn]] at HC
  clear hq hl hr hm hv hn
  go_enter Tryz.func6, Tryz.ntmps6
  go_wp2_with fail
  go_at_call 7; refine (awake18_c _).mono ?_; rintro e w' ⟨rfl, x0, rfl⟩
  go_wp2_with fail
  go_at_call 8; refine (few18s_c q l rs v u _ (HQ.out.below (by (repeat (first | exact grow_refl _ | refine grow_ext _ ?_ | refine grow_alloc _ ?_ | refine grow_drew ?_)))) (HL.out.below (by (repeat (first | exact grow_refl _ | refine grow_ext _ ?_ | refine grow_alloc _ ?_ | refine grow_drew ?_)))) (HR.out.below (by (repeat (first | exact grow_refl _ | refine grow_ext _ ?_ | refine grow_alloc _ ?_ | refine grow_drew ?_))))).mono ?_; rintro e w' ⟨q0, rfl, -, x1, rfl⟩
  cases q0
  · go_wp2
    go_ret
    exact Ret.of (by (repeat (first | exact grow_refl _ | refine grow_ext _ ?_ | refine grow_alloc _ ?_ | refine grow_drew ?_)))
  go_wp2_with fail
  go_at_call 22; refine (HCK.out _ (HQ.out.below (by (repeat (first | exact grow_refl _ | refine grow_ext _ ?_ | refine grow_alloc _ ?_ | refine grow_drew ?_)))) (HL.out.below (by (repeat (first | exact grow_refl _ | refine grow_ext _ ?_ | refine grow_alloc _ ?_ | refine grow_drew ?_)))) (HR.out.below (by (repeat (first | exact grow_refl _ | refine grow_ext _ ?_ | refine grow_alloc _ ?_ | refine grow_drew ?_))))).mono ?_; rintro e w' ⟨a9, c9, rfl, k9, x2, rfl⟩
  go_wp2_with fail
  go_at_call 17; refine (HLE.out _ (HQ.out.below (by (repeat (first | exact grow_refl _ | refine grow_ext _ ?_ | refine grow_alloc _ ?_ | refine grow_drew ?_)))) (HL.out.below (by (repeat (first | exact grow_refl _ | refine grow_ext _ ?_ | refine grow_alloc _ ?_ | refine grow_drew ?_)))) (HR.out.below (by (repeat (first | exact grow_refl _ | refine grow_ext _ ?_ | refine grow_alloc _ ?_ | refine grow_drew ?_))))).mono ?_; rintro e w' ⟨rfl, x3, rfl⟩
  go_wp2_with fail
  go_at_call 25; refine (HC.out _ (HL.out.below (by (repeat (first | exact grow_refl _ | refine grow_ext _ ?_ | refine grow_alloc _ ?_ | refine grow_drew ?_)))) (HR.out.below (by (repeat (first | exact grow_refl _ | refine grow_ext _ ?_ | refine grow_alloc _ ?_ | refine grow_drew ?_))))).mono ?_; rintro e w' ⟨rfl, x4, rfl⟩
  go_wp2
  go_ret
  exact Ret.of (by (repeat (first | exact grow_refl _ | refine grow_ext _ ?_ | refine grow_alloc _ ?_ | refine grow_drew ?_)))

set_option maxRecDepth 100000 in
set_option maxHeartbeats 16000000 in
theorem lawCL_ok (q : Mb) (l : List Br) (rs : List Rn) (v u : Value) (k : Int) (n : Nat) (hm : mbB q = true) (hv : laidB l rs = true) (hn : countS rs = ((n + 1 : Nat) : Int)) (hk : 0 ≤ k ∧ k ≤ 255) (w : World) (hq : MbAt w q) (hl : Bars w v l) (hr : Runs w u rs) :
    Calls Tryz.prog 6 #[(.agg #[.string q.name, q.u, q.t, .int .i64 q.cover, .int .i64 q.agg, .int .i64 q.poker]), v, u, .int .u8 k] w (Ret w (.bool true)) := by
  have HQ := Lib.hid hq
  have HL := Lib.hid hl
  have HR := Lib.hid hr
  obtain ⟨J, hJ⟩ : ∃ J : Nat, k % ((n + 1 : Nat) : Int) = J := ⟨(k % ((n + 1 : Nat) : Int)).toNat, by have := Int.emod_nonneg k (show ((n + 1 : Nat) : Int) ≠ 0 by omega); omega⟩
  have hJn : J ≤ n := by have := Int.emod_lt_of_pos k (show (0 : Int) < ((n + 1 : Nat) : Int) by omega); omega
  have r1 : k.tmod ((n + 1 : Nat) : Int) = J := by rw [Int.tmod_eq_emod_of_nonneg hk.1, hJ]
  have w1 : IntKind.i64.wrap k = k := IntWalk.i64_in _ (by omega)
  have z1 : ((n + 1 : Nat) : Int) ≠ 0 := by omega
  have hj0 : (0 : Int) ≤ (J : Int) := by omega
  have hj2 : (J : Int) ≤ 9223372036854775807 := by have := laid_most hv; omega
  have hj1 : (J : Int) < countS rs := by omega
  have HCK := Lib.hid (fun hc w hq hl hr => Check18_ok q l rs v u hm hv hc w hq hl hr)
  rw [hn, Int.toNat_natCast] at HCK
  have HLE := Lib.hid (fun w hq hl hr => Least18_v q l rs v u ((leastTo q l rs (n + 1)).1 : Int) (leastTo q l rs (n + 1)).2 0 (by unfold leastX; rw [if_pos ⟨hm, hv⟩, if_neg (by omega), hn, Int.toNat_natCast]) w hq hl hr)
  have HC := Lib.hid (fun w hl hr => count_c l rs v u w hl hr)
  rw [show countE l rs = (((n + 1 : Nat) : Int), 0) by unfold countE; rw [if_pos hv, hn]] at HC
  have HB := Lib.hid (fun w hq hl hr => Bar18_c q l rs v u J hj2 w hq hl hr)
  rw [show barX q l rs J = (barI q l rs J, 0) by unfold barX barE; rw [if_pos hm, if_pos hv, if_pos ⟨hj0, hj1⟩]] at HB
  have HLG := Lib.hid (fun w hl hr => legsLaid_c l rs v u J w hl hr)
  rw [show legsE l rs J = (legsI l rs J, 0) by unfold legsE; rw [if_pos hv, if_pos ⟨hj0, hj1⟩]] at HLG
  obtain ⟨g1, g2, -⟩ := mark_of hv hj0 hj1
  have HMK := Lib.hid (fun w hl hr => mark_v l rs v u J _ _ g1 hj2 w hl hr)
  have hsz := size_of hv hj0 hj1
  have hlv := legsI_valid hv hj0 hj1
  have hl1 := legsI_some hv hj0 hj1
  have hl6 := legsI_most l rs J
  have HOF := Lib.hid (show ∀ t (ht : t < (legsI l rs J).length) w, MbAt w q → Calls Tryz.prog 9 #[(.agg #[.string q.name, q.u, q.t, .int .i64 q.cover, .int .i64 q.agg, .int .i64 q.poker]), .int .i64 (sizeI l rs J), (.agg #[.int .i64 (legsI l rs J)[t].lx, .int .i64 (legsI l rs J)[t].ly, .int .i64 (legsI l rs J)[t].lz, .int .i64 (legsI l rs J)[t].hx, .int .i64 (legsI l rs J)[t].hy, .int .i64 (legsI l rs J)[t].hz])] w (Ret w (.tuple #[.int .i64 (coverC q.l q.m (coreX (sizeI l rs J) (legsI l rs J)[t])), .int .i64 0])) from fun t ht w hq => by
    have := Of_c q (sizeI l rs J) (legsI l rs J)[t] w hq
    have hg : givenI q (sizeI l rs J) (legsI l rs J)[t] = 0 := given_zero.2 ⟨hm, hlv _ (List.getElem_mem ht), hsz⟩
    rw [show ofI q (sizeI l rs J) (legsI l rs J)[t] = coverC q.l q.m (coreX (sizeI l rs J) (legsI l rs J)[t]) by unfold ofI; rw [if_pos hg], hg] at this
    exact this)
  have hX : barI q l rs J = coverL q (sizeI l rs J) (legsI l rs J) := rfl
  obtain ⟨s1, s2, s3⟩ := least_spec q l rs n
  obtain ⟨s4, s5⟩ := s3 J hJn
  have hJA : J = (leastTo q l rs (n + 1)).1 → barI q l rs J = (leastTo q l rs (n + 1)).2 := fun e => by rw [s2, ← e]
  have hnl := none_least q l rs n
  have hfm := fun h => found_mem q l rs (show J < n + 1 by omega) h
  have hbi := barI_in q l rs J
  have hFC := fun h => few_count (rs := rs) hv h
  obtain ⟨qq, hqq, e1, -, -⟩ : ∃ qq, ∃ hqq : qq < l.length, findI l (markI rs J) = qq ∧ True ∧ True := by
    rcases findI_cases l (markI rs J) with ⟨e1, -⟩ | ⟨qq, hqq, e1, -, -⟩
    · omega
    · exact ⟨qq, hqq, e1, trivial, trivial⟩
  have hbo : l[qq].size = sizeI l rs J := by
    unfold sizeI barOf; rw [e1]; simp [List.getD, hqq]
  have HX := Lib.hid (fun F hE caps w hl hf => indexBar_c F hE caps (markI rs J) l v w hl hf)
  rw [e1] at HX
  obtain ⟨va, vc, rfl, h2, h3, h4⟩ := hl.shape
  obtain ⟨hok, bb, ob, eb, hbr⟩ := h4 qq hqq
  subst eb
  have HSC := Lib.hid (show ∀ y, (ext w y).cell? ⟨bb, ob + qq * 5 + 1, none⟩ = some (.int .i64 (sizeI l rs J)) from fun y => by
    obtain ⟨c0, c1, c2, c3, c4⟩ := hbr.ext y
    rw [← hbo]; exact c1)
  have i1 : (0 : Int) ≤ (qq : Int) := by omega
  have i2 : (qq : Int) < (l.length : Int) := by omega
  generalize coverTo q l rs (n + 1) = L at *
  generalize leastTo q l rs (n + 1) = LT at *
  generalize barI q l rs J = X at *
  generalize legsI l rs J = LG at *
  generalize markI rs J = MK at *
  generalize sizeI l rs J = D at *
  obtain ⟨A, B⟩ := LT
  simp only at *
  have dl : ∃ b, ((L.length : Int) == 0) = b ∧ decide (q.cover ≤ B) = b := by
    refine ⟨decide (q.cover ≤ B), ?_, rfl⟩
    rw [Bool.eq_iff_iff]; simp only [beq_iff_eq, decide_eq_true_eq]; omega
  obtain ⟨b, dl, dc⟩ := dl
  have dA : decide ((A : Int) < 0) = false := by simp
  have dN : decide (((n + 1 : Nat) : Int) ≤ (A : Int)) = false := by simp; omega
  have dX : decide (X < B) = false := by simp; omega
  have fJ : (decide ((J : Int) < (A : Int)) = true ∧ (X == B) = false ∧ ((J : Int) == (A : Int)) = false) ∨ (decide ((J : Int) < (A : Int)) = false ∧ ((X == B) = true ∧ (X != B) = false) ∧ ((J : Int) == (A : Int)) = true) ∨ (decide ((J : Int) < (A : Int)) = false ∧ ((J : Int) == (A : Int)) = false) := by
    rcases Nat.lt_trichotomy J A with h | h | h
    · left; exact ⟨by simp; omega, by simpa using s5 h, by simp; omega⟩
    · right; left; have := hJA h; exact ⟨by simp; omega, by simp [this], by simp; omega⟩
    · right; right; exact ⟨by simp; omega, by simp; omega⟩
  have dqq : decide ((qq : Int) < 0) = false := by simp
  have dlg : ((LG.length : Int) == 0) = false := by rw [beq_eq_false_iff_ne]; omega
  generalize (J : Int) = J at *
  generalize (A : Int) = A at *
  have HFJ := Lib.hid fJ
  have HNC := Lib.hid hn
  have HFM := Lib.hid hfm
  have HFC := Lib.hid hFC
  have HXE := Lib.hid hX
  have HL6 := Lib.hid (⟨hl1, hl6⟩ : 1 ≤ LG.length ∧ LG.length ≤ 6)
  clear hj2 hq hl hr hm hv hn hk hJ hJn hj0 hj1 g1 g2 hsz hlv hX s1 s2 s3 s4 s5 hJA hnl hfm hFC e1 hbo hok hbr h4 fJ
  generalize ((n + 1 : Nat) : Int) = N at *
  go_enter Tryz.func6, Tryz.ntmps6
  go_wp2_with fail
  go_at_call 7; refine (awake18_c _).mono ?_; rintro e w' ⟨rfl, x0, rfl⟩
  go_wp2_with fail
  go_at_call 8; refine (few18s_c q l rs _ u _ (HQ.out.below (by (repeat (first | exact grow_refl _ | refine grow_ext _ ?_ | refine grow_alloc _ ?_ | refine grow_drew ?_)))) (HL.out.below (by (repeat (first | exact grow_refl _ | refine grow_ext _ ?_ | refine grow_alloc _ ?_ | refine grow_drew ?_)))) (HR.out.below (by (repeat (first | exact grow_refl _ | refine grow_ext _ ?_ | refine grow_alloc _ ?_ | refine grow_drew ?_))))).mono ?_; rintro e w' ⟨q0, rfl, hq0, x1, rfl⟩
  have HQ0 := Lib.hid hq0
  clear hq0
  cases q0
  · go_wp2
    go_ret
    exact Ret.of (by (repeat (first | exact grow_refl _ | refine grow_ext _ ?_ | refine grow_alloc _ ?_ | refine grow_drew ?_)))
  have HCK := Lib.hid (HCK.out (by have := HFC.out (HQ0.out rfl); have := HNC.out; omega))
  clear HQ0 HFC HNC
  go_wp2_with fail
  go_at_call 22; refine (HCK.out _ (HQ.out.below (by (repeat (first | exact grow_refl _ | refine grow_ext _ ?_ | refine grow_alloc _ ?_ | refine grow_drew ?_)))) (HL.out.below (by (repeat (first | exact grow_refl _ | refine grow_ext _ ?_ | refine grow_alloc _ ?_ | refine grow_drew ?_)))) (HR.out.below (by (repeat (first | exact grow_refl _ | refine grow_ext _ ?_ | refine grow_alloc _ ?_ | refine grow_drew ?_))))).mono ?_; rintro e w' ⟨v9, rfl, ho9, x2, rfl⟩
  have HO9 := Lib.hid (Fds.of_own ho9)
  obtain ⟨a9, c9, rfl, k9, m9, -⟩ := own_shape ho9
  clear ho9
  go_wp2_with fail
  go_at_call 17; refine (HLE.out _ (HQ.out.below (by (repeat (first | exact grow_refl _ | refine grow_ext _ ?_ | refine grow_alloc _ ?_ | refine grow_drew ?_)))) (HL.out.below (by (repeat (first | exact grow_refl _ | refine grow_ext _ ?_ | refine grow_alloc _ ?_ | refine grow_drew ?_)))) (HR.out.below (by (repeat (first | exact grow_refl _ | refine grow_ext _ ?_ | refine grow_alloc _ ?_ | refine grow_drew ?_))))).mono ?_; rintro e w' ⟨rfl, x3, rfl⟩
  go_wp2_with fail
  go_at_call 25; refine (HC.out _ (HL.out.below (by (repeat (first | exact grow_refl _ | refine grow_ext _ ?_ | refine grow_alloc _ ?_ | refine grow_drew ?_)))) (HR.out.below (by (repeat (first | exact grow_refl _ | refine grow_ext _ ?_ | refine grow_alloc _ ?_ | refine grow_drew ?_))))).mono ?_; rintro e w' ⟨rfl, x4, rfl⟩
  go_wp2_with fail
  go_at_call 16; refine (HB.out _ (HQ.out.below (by (repeat (first | exact grow_refl _ | refine grow_ext _ ?_ | refine grow_alloc _ ?_ | refine grow_drew ?_)))) (HL.out.below (by (repeat (first | exact grow_refl _ | refine grow_ext _ ?_ | refine grow_alloc _ ?_ | refine grow_drew ?_)))) (HR.out.below (by (repeat (first | exact grow_refl _ | refine grow_ext _ ?_ | refine grow_alloc _ ?_ | refine grow_drew ?_))))).mono ?_; rintro e w' ⟨rfl, x5, rfl⟩
  go_wp2_with fail
  go_at_call 26; refine (HLG.out _ (HL.out.below (by (repeat (first | exact grow_refl _ | refine grow_ext _ ?_ | refine grow_alloc _ ?_ | refine grow_drew ?_)))) (HR.out.below (by (repeat (first | exact grow_refl _ | refine grow_ext _ ?_ | refine grow_alloc _ ?_ | refine grow_drew ?_))))).mono ?_; rintro e w' ⟨v7, rfl, ho7, x6, rfl⟩
  have HO7 := Lib.hid (Boxes.of_own ho7)
  obtain ⟨a7, c7, rfl, k7, m7, -⟩ := own_shape ho7
  clear ho7
  go_wp2_with fail
  go_at_call 27; refine (HMK.out _ (HL.out.below (by (repeat (first | exact grow_refl _ | refine grow_ext _ ?_ | refine grow_alloc _ ?_ | refine grow_drew ?_)))) (HR.out.below (by (repeat (first | exact grow_refl _ | refine grow_ext _ ?_ | refine grow_alloc _ ?_ | refine grow_drew ?_))))).mono ?_; rintro e w' ⟨rfl, x7, rfl⟩
  rcases HFJ.out with ⟨f1, f2, f3⟩ | ⟨f1, ⟨f2, f4⟩, f3⟩ | ⟨f1, f3⟩
  all_goals
    clear HFJ
    go_wp2_with fail
    obtain ⟨g21, hg21⟩ : ∃ g, g = w.heap.size + 1 + x0.heap.size + x1.heap.size + x2.heap.size + x3.heap.size + x4.heap.size + x5.heap.size + x6.heap.size + x7.heap.size := ⟨_, rfl⟩
    rw [← hg21]
    have hcell : ∀ (W : World) (x : World), W.heap.size = g21 → (ext (W.alloc (.cells #[.string MK] 9)) x).cell? ⟨g21, 0, none⟩ = some (.string MK) := fun W x h => cell_ext_some (Blk.cell (Blk.new' h.symm #[.string MK] _) 0) x
    refine Calls.mono (HX.out _ enters_least1 _ _ (HL.out.below (by (repeat (first | exact grow_refl _ | refine grow_ext _ ?_ | refine grow_alloc _ ?_ | refine grow_drew ?_)))) ?_) ?_
    · intro b x _
      refine least1_c b MK g21 _ ?_
      exact hcell _ x (by simp only [size_ext, World.size_alloc]; omega)
    rintro e w' ⟨rfl, x8, rfl⟩
    go_wp2_with fail
    refine world_mask (fun W => (∃ z, W = ext w z) ∧ MCells W w.heap.size q ∧ Boxes W (.slice a7 LG.length c7) LG ∧ Fds W (.slice a9 L.length c9) L ∧ W.cell? ⟨w.heap.size + 1 + x0.heap.size + x1.heap.size + x2.heap.size + x3.heap.size + x4.heap.size + x5.heap.size + x6.heap.size + x7.heap.size, 0, none⟩ = some (.string MK)) _ ⟨ext_of (by (repeat (first | exact grow_refl _ | refine grow_ext _ ?_ | refine grow_alloc _ ?_ | refine grow_drew ?_))), by simp [MCells, go_sem], HO7.out.below (by (repeat (first | exact grow_refl _ | refine grow_ext _ ?_ | refine grow_alloc _ ?_ | refine grow_drew ?_))), HO9.out.below (by (repeat (first | exact grow_refl _ | refine grow_ext _ ?_ | refine grow_alloc _ ?_ | refine grow_drew ?_))), by rw [← hg21]; exact hcell _ x8 (by simp only [size_ext, World.size_alloc]; omega)⟩ ?_
    clear hcell hg21 HO7 HO9 f1 f3 dlg dqq
    rintro W1 ⟨hbe, hm1, hb1, hf1, hs1⟩
    have HBE := Lib.hid hbe
    have HM1 := Lib.hid hm1
    have HB1 := Lib.hid hb1
    have HF1 := Lib.hid hf1
    have HS1 := Lib.hid hs1
    clear hbe hm1 hb1 hf1 hs1
    go_loopw [24, 172] (fun a i wr => ∃ (t : Nat) (T : Int), t ≤ LG.length ∧ i = .int .i64 t ∧ a = .int .i64 T ∧ (t = 0 → T = 4194304) ∧ (1 ≤ t → T = coverL q D (LG.take t)) ∧ (-1 ≤ T ∧ T ≤ 4194304) ∧ ∃ z, wr = ext W1 z) (fun _ i _ => LG.length - (intOf i).toNat)
    case atStart => exact ⟨0, 4194304, by omega, rfl, rfl, fun _ => rfl, fun h => absurd h (by decide), by decide, ext_of (by (repeat (first | exact grow_refl _ | refine grow_ext _ ?_ | refine grow_alloc _ ?_ | refine grow_drew ?_)))⟩
    case round =>
      obtain ⟨t, T, ht, rfl, rfl, hT0, hT1, ⟨hTl, hTh⟩, z, rfl⟩ := hrel
      have HT0 := Lib.hid hT0
      have HT1 := Lib.hid hT1
      clear hT0 hT1
      obtain ⟨m0, m1, m2, m3, m4, m5⟩ := HM1.out.ext z
      have hsc := HSC.out
      by_cases hlt : t < LG.length
      · have q1 : (0 : Int) ≤ (t : Int) := by omega
        have q2 : (t : Int) < (LG.length : Int) := by omega
        obtain ⟨a', cap', e', -, -, h5⟩ := HB1.out
        cases e'
        obtain ⟨b0, o0, rfl, hbx⟩ := h5 t hlt
        have HOK := Lib.hid (fun w hq => HOF.out t hlt w hq)
        have HCT := Lib.hid (coverL_take q D hlt)
        have HCO := Lib.hid (fun h : t = 0 => coverL_one q D (L := LG) (by omega))
        have hci := coverC_in q.l q.m (coreX D LG[t])
        have HCC := Lib.hid (fun h : t = 0 => show LG[0]'(by omega) = LG[t] by subst h; rfl)
        obtain ⟨LT, hL⟩ : ∃ LT, LG[t] = LT := ⟨_, rfl⟩
        rw [hL] at hbx HOK HCT hci HCC
        obtain ⟨c0, c1, c2, c3, c4, c5⟩ := hbx.ext z
        have hsz1 : (ext W1 z).cell? ⟨bb, ob + qq * 5 + 1, none⟩ = some (.int .i64 D) := by
          obtain ⟨zz, ez⟩ := HBE.out
          rw [ez, ext_ext]; exact hsc _
        have HCV := Lib.hid (show min T (coverC q.l q.m (coreX D LT)) = coverL q D (LG.take (t + 1)) by
          rcases Nat.eq_zero_or_pos t with h | h
          · have h1 := HCO.out h
            have h2 := HCC.out h
            rw [h2] at h1
            rw [show t + 1 = 1 by omega, h1, HT0.out h]; omega
          · rw [HCT.out, HT1.out h])
        generalize coverC q.l q.m (coreX D LT) = C at *
        clear h5 hL hbx hsc HCT HCO HCC
        go_wp2_with fail
        refine wp_region_grows (by kernel_rfl) (by kernel_rfl) ?_
        repeat (go_big_quiet_step ((go_at_call 9; exact Calls.quiet_ext (HOK.out _ (HQ.out.below (Below.trans (show Below w.heap.size w (ext W1 z) by obtain ⟨zz, ez⟩ := HBE.out; rw [ez, ext_ext]; exact below_ext _ _) (Below.mono (show Below (ext W1 z).heap.size (ext W1 z) _ from by (repeat (first | exact grow_refl _ | refine grow_ext _ ?_ | refine grow_alloc _ ?_ | refine grow_drew ?_))) (by obtain ⟨zz, ez⟩ := HBE.out; rw [ez, ext_ext, size_ext]; omega))))))))
        refine wpQuiet_nil ?_; rintro _ ⟨xq, rfl⟩
        go_wp2
        go_roundw
        case rel => exact ⟨t + 1, min T C, by omega, by go_num, rfl, fun h => absurd h (by omega), fun _ => HCV.out, by omega, ext_of (by (repeat (first | exact grow_refl _ | refine grow_ext _ ?_ | refine grow_alloc _ ?_ | refine grow_drew ?_)))⟩
        case measure => simp [intOf]; omega
      · obtain rfl : t = LG.length := by omega
        have hT := HT1.out HL6.out.1
        rw [List.take_length, ← HXE.out] at hT
        subst hT
        have hs1 := cell_ext_some HS1.out z
        have HZZ := Lib.hid (show ∃ z2, ext W1 z = ext w z2 by obtain ⟨zz, ez⟩ := HBE.out; rw [ez, ext_ext]; exact ⟨_, rfl⟩)
        by_cases hxc : q.cover ≤ T
        · have d9 : decide (q.cover ≤ T) = true := by simpa using hxc
          clear hxc
          go_wp2
          go_ret
          obtain ⟨z2, e2⟩ := HZZ.out
          rw [e2]
          exact Ret.of (by (repeat (first | exact grow_refl _ | refine grow_ext _ ?_ | refine grow_alloc _ ?_ | refine grow_drew ?_)))
        · have d9 : decide (q.cover ≤ T) = false := by simpa using hxc
          have hmem := HFM.out (by omega)
          have HCF := Lib.hid (fun w hl => containsFd_c L MK (.slice a9 L.length c9) hmem w hl)
          clear hxc hmem
          go_wp2_with fail
          go_at_call 30; refine (HCF.out _ (HF1.out.below (by (repeat (first | exact grow_refl _ | refine grow_ext _ ?_ | refine grow_alloc _ ?_ | refine grow_drew ?_))))).mono ?_; rintro e w' ⟨rfl, y1, rfl⟩
          go_wp2
          go_ret
          obtain ⟨z2, e2⟩ := HZZ.out
          rw [e2]
          exact Ret.of (by (repeat (first | exact grow_refl _ | refine grow_ext _ ?_ | refine grow_alloc _ ?_ | refine grow_drew ?_)))

theorem lawCoverLeast_c (q : Mb) (l : List Br) (v : Value) (rs : List Rn) (u : Value) (k : Int) (hk : 0 ≤ k ∧ k ≤ 255) (w : World) (hq : MbAt w q) (hl : Bars w v l) (hr : Runs w u rs) :
    Calls Tryz.prog 6 #[(.agg #[.string q.name, q.u, q.t, .int .i64 q.cover, .int .i64 q.agg, .int .i64 q.poker]), v, u, .int .u8 k] w (Ret w (.bool true)) := by
  by_cases h : mbB q = true ∧ laidB l rs = true
  · by_cases hn : countS rs = 0
    · exact lawCL_none q l rs v u k h.1 h.2 hn w hq hl hr
    · have h0 := countS_nonneg (laidB_iff.1 h.2).2.2.1
      exact lawCL_ok q l rs v u k ((countS rs).toNat - 1) h.1 h.2 (by omega) hk w hq hl hr
  · exact lawCL_err q l rs v u k h w hq hl hr

end Go.Proofs.YtdldbdffaffjoaaGreat

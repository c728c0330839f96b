/- The reference of fabrics: names, Valid. -/
import Derived.Test.YtolcpkpfndnkbaaFabC
namespace Go.Proofs.Ytolcpkpfndnkbaa
open Go.RowKit

set_option maxHeartbeats 1000000 in
theorem refWord_c (s : ByteArray) (hs : s.size ≤ 9223372036854775807) (w : World) : Calls Try.prog 68 #[.string s, .int .i64 0] w (Ret w (.int .i64 (wordLen s.data.toList))) := by
  go_enter Try.func68, Try.ntmps68
  go_wp2
  go_loopw [1] (fun i wr => ∃ k : Nat, k ≤ s.size ∧ i = .int .i64 k ∧ (∃ x, wr = ext w x) ∧ k + wordLen (s.data.toList.drop k) = wordLen s.data.toList) (fun i _ => s.size - (intOf i).toNat)
  case atStart => exact ⟨0, Nat.zero_le _, rfl, ext_of (Below.refl _ _), by simp⟩
  case round =>
    obtain ⟨k, hk, rfl, ⟨x, rfl⟩, hw⟩ := hrel
    by_cases hlt : k < s.size
    · have hd : wordLen (s.data.toList.drop k) = if wordI (s[k].toNat : Int) = true then wordLen (s.data.toList.drop (k + 1)) + 1 else 0 := wordLen_drop s.data.toList k (by simpa using hlt)
      have HD := Lib.hid hd
      have HW := Lib.hid hw
      clear hd hw
      have h0 : (0 : Int) ≤ (k : Int) := by omega
      cases hL : letterI (s[k].toNat : Int)
      · cases hDg : digitI (s[k].toNat : Int)
        · by_cases h95 : (s[k].toNat : Int) = 95
          · have hb : ((s[k].toNat : Int) == 95) = true := by simp [h95]
            have HX := Lib.hid (show wordI (s[k].toNat : Int) = true by rw [word_or hL hDg rfl]; simp [h95])
            have HLL := Lib.hid hL
            have HDD := Lib.hid hDg
            clear hL hDg h95
            go_wp2_with fail
            go_at_call 67; refine (refLetter_v _ _ HLL.out _).mono ?_; rintro e w' ⟨rfl, x, rfl⟩
            go_wp2_with fail
            go_at_call 76; refine (refDigit_v _ _ HDD.out _).mono ?_; rintro e w' ⟨rfl, x, rfl⟩
            go_wp2
            go_roundw
            case rel => exact ⟨k + 1, by omega, by go_num, ⟨_, by rw [ext_ext, ext_ext]⟩, by have := HD.out; rw [if_pos HX.out] at this; have := HW.out; omega⟩
            case measure => simp [intOf]; omega
          · have hb : ((s[k].toNat : Int) == 95) = false := by simpa using h95
            have HX := Lib.hid (show ¬ wordI (s[k].toNat : Int) = true by rw [word_or hL hDg rfl]; simpa using h95)
            have HLL := Lib.hid hL
            have HDD := Lib.hid hDg
            clear hL hDg h95
            go_wp2_with fail
            go_at_call 67; refine (refLetter_v _ _ HLL.out _).mono ?_; rintro e w' ⟨rfl, x, rfl⟩
            go_wp2_with fail
            go_at_call 76; refine (refDigit_v _ _ HDD.out _).mono ?_; rintro e w' ⟨rfl, x, rfl⟩
            go_wp2
            go_ret
            exact Ret.int (by have := HD.out; rw [if_neg HX.out] at this; have := HW.out; omega) (by (repeat (first | exact grow_refl _ | refine grow_ext _ ?_ | refine grow_alloc _ ?_ | refine grow_drew ?_)))
        · have HX := Lib.hid (show wordI (s[k].toNat : Int) = true by rw [word_or hL hDg rfl]; simp)
          have HLL := Lib.hid hL
          have HDD := Lib.hid hDg
          clear hL hDg
          go_wp2_with fail
          go_at_call 67; refine (refLetter_v _ _ HLL.out _).mono ?_; rintro e w' ⟨rfl, x, rfl⟩
          go_wp2_with fail
          go_at_call 76; refine (refDigit_v _ _ HDD.out _).mono ?_; rintro e w' ⟨rfl, x, rfl⟩
          go_wp2
          go_roundw
          case rel => exact ⟨k + 1, by omega, by go_num, ⟨_, by rw [ext_ext, ext_ext]⟩, by have := HD.out; rw [if_pos HX.out] at this; have := HW.out; omega⟩
          case measure => simp [intOf]; omega
      · have HX := Lib.hid (show wordI (s[k].toNat : Int) = true by rw [word_or hL rfl rfl]; simp)
        have HLL := Lib.hid hL
        clear hL
        go_wp2_with fail
        go_at_call 67; refine (refLetter_v _ _ HLL.out _).mono ?_; rintro e w' ⟨rfl, x, rfl⟩
        go_wp2
        go_roundw
        case rel => exact ⟨k + 1, by omega, by go_num, ⟨_, by rw [ext_ext]⟩, by have := HD.out; rw [if_pos HX.out] at this; have := HW.out; omega⟩
        case measure => simp [intOf]; omega
    · have HW := Lib.hid hw
      clear hw
      go_wp2
      go_ret
      exact Ret.int (by have := HW.out; rw [List.drop_eq_nil_of_le (by simp; omega)] at this; simp [wordLen] at this; omega) (by (repeat (first | exact grow_refl _ | refine grow_ext _ ?_ | refine grow_alloc _ ?_ | refine grow_drew ?_)))

set_option maxHeartbeats 1000000 in
theorem refIsName_c (s : ByteArray) (hs : s.size ≤ 9223372036854775807) (w : World) : Calls Try.prog 51 #[.string s] w (Ret w (.bool (nameB s))) := by
  rcases Nat.eq_zero_or_pos s.size with h0 | h0
  · have hl : s.data.toList = [] := by rw [size_list] at h0; exact List.eq_nil_of_length_eq_zero h0
    have HN := Lib.hid (nameB_nil hl)
    have he : ((s.size : Int) == 0) = true := by simp [h0]
    clear hl
    go_enter Try.func51, Try.ntmps51
    go_wp2
    go_ret
    rw [HN.out]
    exact Ret.of (by (repeat (first | exact grow_refl _ | refine grow_ext _ ?_ | refine grow_alloc _ ?_ | refine grow_drew ?_)))
  · have he : ((s.size : Int) == 0) = false := beq_eq_false_iff_ne.2 (by omega)
    have h0i : (0 : Int) < (s.size : Int) := by omega
    by_cases h20 : s.size ≤ 20
    · have hd20 : decide ((20 : Int) < (s.size : Int)) = false := by simp; omega
      cases hL : letterI (s[0].toNat : Int)
      · have HN := Lib.hid (nameB_cons h0 hL)
        have HLL := Lib.hid hL
        clear hL
        go_enter Try.func51, Try.ntmps51
        go_wp2_with fail
        go_at_call 67; refine (refLetter_v _ _ HLL.out _).mono ?_; rintro e w' ⟨rfl, x, rfl⟩
        go_wp2
        go_ret
        rw [HN.out]
        exact Ret.bool (by simp) (by (repeat (first | exact grow_refl _ | refine grow_ext _ ?_ | refine grow_alloc _ ?_ | refine grow_drew ?_)))
      · have HN := Lib.hid (nameB_cons h0 hL)
        have HLL := Lib.hid hL
        clear hL
        have hw := wordLen_le s.data.toList
        rw [← size_list] at hw
        go_enter Try.func51, Try.ntmps51
        go_wp2_with fail
        go_at_call 67; refine (refLetter_v _ _ HLL.out _).mono ?_; rintro e w' ⟨rfl, x, rfl⟩
        go_wp2_with fail
        go_at_call 68; refine (refWord_c s hs _).mono ?_; rintro e w' ⟨rfl, x, rfl⟩
        go_wp2
        go_ret
        rw [HN.out]
        exact Ret.bool (by rw [Bool.eq_iff_iff]; simp <;> omega) (by (repeat (first | exact grow_refl _ | refine grow_ext _ ?_ | refine grow_alloc _ ?_ | refine grow_drew ?_)))
    · obtain ⟨a, ha⟩ : ∃ a, letterI (s[0].toNat : Int) = a := ⟨_, rfl⟩
      have HN := Lib.hid (nameB_cons h0 ha)
      have hd20 : decide ((20 : Int) < (s.size : Int)) = true := by simp; omega
      clear ha
      go_enter Try.func51, Try.ntmps51
      go_wp2
      go_ret
      rw [HN.out]
      exact Ret.bool (by rw [Bool.eq_iff_iff]; simp <;> omega) (by (repeat (first | exact grow_refl _ | refine grow_ext _ ?_ | refine grow_alloc _ ?_ | refine grow_drew ?_)))
theorem refIsName_v (s : ByteArray) (r : Bool) (h : nameB s = r) (hs : s.size ≤ 9223372036854775807) (w : World) : Calls Try.prog 51 #[.string s] w (Ret w (.bool r)) := by subst h; exact refIsName_c s hs w

set_option maxHeartbeats 400000 in
theorem refValue_v (n : Int) (r : Bool) (h : inI n 1 16777216 = r) (w : World) : Calls Try.prog 52 #[.int .i64 n] w (Ret w (.bool r)) := by
  cases r
  · rcases inI_false h with h1 | h1
    all_goals
      clear h
      go_enter Try.func52, Try.ntmps52
      go_wp2
      all_goals
        go_ret
        exact Ret.bool (by simp <;> omega) (by (repeat (first | exact grow_refl _ | refine grow_ext _ ?_ | refine grow_alloc _ ?_ | refine grow_drew ?_)))
  · obtain ⟨h1, h2⟩ := inI_iff.1 h
    clear h
    go_enter Try.func52, Try.ntmps52
    go_wp2
    all_goals
      go_ret
      exact Ret.bool (by simp <;> omega) (by (repeat (first | exact grow_refl _ | refine grow_ext _ ?_ | refine grow_alloc _ ?_ | refine grow_drew ?_)))
set_option maxHeartbeats 400000 in
theorem refSheet_v (n : Int) (r : Bool) (h : inI n 1 20000 = r) (w : World) : Calls Try.prog 41 #[.int .i64 n] w (Ret w (.bool r)) := by
  cases r
  · rcases inI_false h with h1 | h1
    all_goals
      clear h
      go_enter Try.func41, Try.ntmps41
      go_wp2
      all_goals
        go_ret
        exact Ret.bool (by simp <;> omega) (by (repeat (first | exact grow_refl _ | refine grow_ext _ ?_ | refine grow_alloc _ ?_ | refine grow_drew ?_)))
  · obtain ⟨h1, h2⟩ := inI_iff.1 h
    clear h
    go_enter Try.func41, Try.ntmps41
    go_wp2
    all_goals
      go_ret
      exact Ret.bool (by simp <;> omega) (by (repeat (first | exact grow_refl _ | refine grow_ext _ ?_ | refine grow_alloc _ ?_ | refine grow_drew ?_)))

theorem seen_snoc {l : List Fb} {q : Nat} (f : Fb) (h : q < l.length) : seenB (l.take (q + 1)) f = (seenB (l.take q) f || decide (l[q].name = f.name)) := by
  unfold seenB
  rw [List.take_succ_eq_append_getElem h, List.map_append]
  rw [Bool.eq_iff_iff]
  simp only [Bool.or_eq_true, decide_eq_true_eq, List.mem_append, List.map_cons, List.map_nil, List.mem_singleton]
  constructor
  · rintro (h1 | h1)
    · exact .inl h1
    · refine .inr ?_
      exact ByteArray.ext (Array.ext' h1.symm)
  · rintro (h1 | h1)
    · exact .inl h1
    · exact .inr (by rw [h1])

theorem str_eq {a b : ByteArray} (h : a = b) : (a.toList == b.toList) = true := by subst h; exact beq_self_eq_true _
theorem str_ne {a b : ByteArray} (h : ¬ a = b) : (a.toList == b.toList) = false := by
  rw [beq_eq_false_iff_ne]
  intro e
  rw [ByteArray.toList_eq, ByteArray.toList_eq] at e
  exact h (ByteArray.ext (Array.ext' e))

theorem seen_mono {l : List Fb} {f : Fb} {p q : Nat} (h : p ≤ q) (hp : seenB (l.take p) f = true) : seenB (l.take q) f = true := by
  unfold seenB at hp ⊢
  rw [decide_eq_true_eq] at hp ⊢
  rw [List.mem_map] at hp ⊢
  obtain ⟨g, hg, e⟩ := hp
  refine ⟨g, ?_, e⟩
  have : l.take p = (l.take q).take p := by rw [List.take_take, Nat.min_eq_left h]
  rw [this] at hg
  exact List.mem_of_mem_take hg

set_option maxRecDepth 100000 in
set_option maxHeartbeats 4000000 in
theorem refFabValid_c (l : List Fb) (v : Value) (w : World) (hl : Fabs w v l) :
    Calls Try.prog 29 #[v] w (Ret w (.bool (fabsB l))) := by
  obtain ⟨a, cap, rfl, hcap, hcap2, hcell⟩ := hl.shape
  have HC := Lib.hid hcell
  clear hcell hl
  by_cases h20 : l.length ≤ 20
  · have hd20 : decide ((20 : Int) < (l.length : Int)) = false := by simp; omega
    go_enter Try.func29, Try.ntmps29
    go_wp2_with fail
    go_loopw [3] (fun i wr => ∃ k : Nat, k ≤ l.length ∧ i = .int .i64 k ∧ (∃ x, wr = ext w x) ∧ fabTo l k = true) (fun i _ => l.length - (intOf i).toNat)
    case atStart => exact ⟨0, Nat.zero_le _, rfl, ext_of (by (repeat (first | exact grow_refl _ | refine grow_ext _ ?_ | refine grow_alloc _ ?_ | refine grow_drew ?_))), rfl⟩
    case round =>
      obtain ⟨k, hk, rfl, ⟨x, rfl⟩, hT⟩ := hrel
      have HT := Lib.hid hT
      clear hT
      by_cases hlt : k < l.length
      · obtain ⟨hns, b0, off, rfl, c0, c1, c2, c3, c4, c5⟩ := HC.out k hlt
        have HS := Lib.hid (fabTo_succ hlt)
        have hk0 : (0 : Int) ≤ (k : Int) := by omega
        have hkl : (k : Int) < (l.length : Int) := by omega
        have htk : decide ((k : Int) < (l.length : Int)) = true := by simp; omega
        obtain ⟨f, hf⟩ : ∃ f, f = l[k] := ⟨_, rfl⟩
        rw [← hf] at hns c0 c1 c2 c3 c4 c5 HS
        clear hf
        obtain ⟨ok, HK⟩ : ∃ r, Hid (fbOk f = r) := ⟨_, Lib.hid rfl⟩
        go_upto_region 7 with fail
        refine world_mask (fun W => Below (ext w x).heap.size (ext w x) W ∧ FbAt W (ext w x).heap.size 0 f) _ ?_ ?_
        · refine ⟨by (repeat (first | exact grow_refl _ | refine grow_ext _ ?_ | refine grow_alloc _ ?_ | refine grow_drew ?_)), ?_⟩
          simp [FbAt, go_sem]
        clear c0 c1 c2 c3 c4 c5
        rintro W1 ⟨hB, ⟨c0, c1, c2, c3, c4, c5⟩⟩
        simp only [size_ext] at c0 c1 c2 c3 c4 c5
        have HB := Lib.hid hB
        clear hB
        go_cut [52] (fun s wx => s = .bool (!ok) ∧ ∃ x, wx = ext W1 x)
        case first =>
          cases hA : nameB f.name
          · go_wp2_with (first | (go_at_call 51; refine (refIsName_v f.name _ hA hns _).mono ?_; rintro e w' ⟨rfl, y1, rfl⟩) | (go_at_call 52; refine (refValue_v _ _ (by assumption) _).mono ?_; rintro e w' ⟨rfl, y2, rfl⟩) | (go_at_call 41; refine (refSheet_v _ _ (by assumption) _).mono ?_; rintro e w' ⟨rfl, y3, rfl⟩))
            go_meet
            exact ⟨congrArg Value.bool (by rw [← HK.out]; unfold fbOk; simp [*]), ext_of (by (repeat (first | exact grow_refl _ | refine grow_ext _ ?_ | refine grow_alloc _ ?_ | refine grow_drew ?_)))⟩
          · cases h1 : inI f.main 1 16777216
            · go_wp2_with (first | (go_at_call 51; refine (refIsName_v f.name _ hA hns _).mono ?_; rintro e w' ⟨rfl, y1, rfl⟩) | (go_at_call 52; refine (refValue_v _ _ (by assumption) _).mono ?_; rintro e w' ⟨rfl, y2, rfl⟩) | (go_at_call 41; refine (refSheet_v _ _ (by assumption) _).mono ?_; rintro e w' ⟨rfl, y3, rfl⟩))
              go_meet
              exact ⟨congrArg Value.bool (by rw [← HK.out]; unfold fbOk; simp [*]), ext_of (by (repeat (first | exact grow_refl _ | refine grow_ext _ ?_ | refine grow_alloc _ ?_ | refine grow_drew ?_)))⟩
            · cases h2 : inI f.cross 1 16777216
              · go_wp2_with (first | (go_at_call 51; refine (refIsName_v f.name _ hA hns _).mono ?_; rintro e w' ⟨rfl, y1, rfl⟩) | (go_at_call 52; refine (refValue_v _ _ (by assumption) _).mono ?_; rintro e w' ⟨rfl, y2, rfl⟩) | (go_at_call 41; refine (refSheet_v _ _ (by assumption) _).mono ?_; rintro e w' ⟨rfl, y3, rfl⟩))
                go_meet
                exact ⟨congrArg Value.bool (by rw [← HK.out]; unfold fbOk; simp [*]), ext_of (by (repeat (first | exact grow_refl _ | refine grow_ext _ ?_ | refine grow_alloc _ ?_ | refine grow_drew ?_)))⟩
              · cases h5 : inI f.mass 1 16777216
                · go_wp2_with (first | (go_at_call 51; refine (refIsName_v f.name _ hA hns _).mono ?_; rintro e w' ⟨rfl, y1, rfl⟩) | (go_at_call 52; refine (refValue_v _ _ (by assumption) _).mono ?_; rintro e w' ⟨rfl, y2, rfl⟩) | (go_at_call 41; refine (refSheet_v _ _ (by assumption) _).mono ?_; rintro e w' ⟨rfl, y3, rfl⟩))
                  go_meet
                  exact ⟨congrArg Value.bool (by rw [← HK.out]; unfold fbOk; simp [*]), ext_of (by (repeat (first | exact grow_refl _ | refine grow_ext _ ?_ | refine grow_alloc _ ?_ | refine grow_drew ?_)))⟩
                · cases h3 : inI f.length 1 20000
                  · go_wp2_with (first | (go_at_call 51; refine (refIsName_v f.name _ hA hns _).mono ?_; rintro e w' ⟨rfl, y1, rfl⟩) | (go_at_call 52; refine (refValue_v _ _ (by assumption) _).mono ?_; rintro e w' ⟨rfl, y2, rfl⟩) | (go_at_call 41; refine (refSheet_v _ _ (by assumption) _).mono ?_; rintro e w' ⟨rfl, y3, rfl⟩))
                    go_meet
                    exact ⟨congrArg Value.bool (by rw [← HK.out]; unfold fbOk; simp [*]), ext_of (by (repeat (first | exact grow_refl _ | refine grow_ext _ ?_ | refine grow_alloc _ ?_ | refine grow_drew ?_)))⟩
                  · cases h4 : inI f.width 1 20000
                    · go_wp2_with (first | (go_at_call 51; refine (refIsName_v f.name _ hA hns _).mono ?_; rintro e w' ⟨rfl, y1, rfl⟩) | (go_at_call 52; refine (refValue_v _ _ (by assumption) _).mono ?_; rintro e w' ⟨rfl, y2, rfl⟩) | (go_at_call 41; refine (refSheet_v _ _ (by assumption) _).mono ?_; rintro e w' ⟨rfl, y3, rfl⟩))
                      go_meet
                      exact ⟨congrArg Value.bool (by rw [← HK.out]; unfold fbOk; simp [*]), ext_of (by (repeat (first | exact grow_refl _ | refine grow_ext _ ?_ | refine grow_alloc _ ?_ | refine grow_drew ?_)))⟩
                    · go_wp2_with (first | (go_at_call 51; refine (refIsName_v f.name _ hA hns _).mono ?_; rintro e w' ⟨rfl, y1, rfl⟩) | (go_at_call 52; refine (refValue_v _ _ (by assumption) _).mono ?_; rintro e w' ⟨rfl, y2, rfl⟩) | (go_at_call 41; refine (refSheet_v _ _ (by assumption) _).mono ?_; rintro e w' ⟨rfl, y3, rfl⟩))
                      go_meet
                      exact ⟨congrArg Value.bool (by rw [← HK.out]; unfold fbOk; simp [*]), ext_of (by (repeat (first | exact grow_refl _ | refine grow_ext _ ?_ | refine grow_alloc _ ?_ | refine grow_drew ?_)))⟩
        case rest =>
          obtain ⟨rfl, y, rfl⟩ := hcut
          have HBW := Lib.hid (show Below w.heap.size w (ext W1 y) from grow_ext y ((grow_ext x (grow_refl w)).trans (HB.out.mono (by simp [size_ext]))))
          cases ok
          · have HF := Lib.hid (show fabsB l = false by unfold fabsB; rw [fabTo_false (k := k + 1) (by omega) (by rw [HS.out, HK.out]; simp)]; simp)
            go_wp2
            go_ret
            rw [HF.out]
            exact Ret.of HBW.out
          · clear c1 c2 c3 c4 c5
            go_wp2_with fail
            go_loopw [5] (fun j wr => ∃ q : Nat, q ≤ k ∧ j = .int .i64 q ∧ (∃ x, wr = ext (ext W1 y) x) ∧ seenB (l.take q) f = false) (fun j _ => k - (intOf j).toNat)
            case atStart => exact ⟨0, Nat.zero_le _, rfl, ext_of (by (repeat (first | exact grow_refl _ | refine grow_ext _ ?_ | refine grow_alloc _ ?_ | refine grow_drew ?_))), rfl⟩
            case round =>
              obtain ⟨q, hq, rfl, ⟨z, rfl⟩, hS⟩ := hrel
              have HSS := Lib.hid hS
              clear hS
              by_cases hqk : q < k
              · obtain ⟨_, b1, off1, he1, d0, _⟩ := HC.out q (by omega)
                cases he1
                have HSN := Lib.hid (seen_snoc (l := l) (q := q) f (by omega))
                have hq0 : (0 : Int) ≤ (q : Int) := by omega
                have hql : (q : Int) < (l.length : Int) := by omega
                have e0 : (ext W1 y).cell? ⟨b0, off + q * 6, none⟩ = some (.string l[q].name) := by
                  obtain ⟨u, hu⟩ := ext_of HBW.out
                  rw [hu]
                  exact cell_ext_some d0 u
                obtain ⟨g, hg⟩ : ∃ g, g = l[q].name := ⟨_, rfl⟩
                rw [← hg] at e0 HSN
                clear hg d0
                by_cases hgf : g = f.name
                · have hb1 : decide (g = f.name) = true := by simp [hgf]
                  have hb2 := str_eq hgf
                  have HF := Lib.hid (show fabsB l = false by
                    unfold fabsB
                    rw [fabTo_false (k := k + 1) (by omega) (by rw [HS.out, HK.out, seen_mono (show q + 1 ≤ k by omega) (by rw [HSN.out, hb1]; simp)]; simp)]
                    simp)
                  clear hgf
                  go_wp2_with fail
                  refine wp_region_grows (by kernel_rfl) (by kernel_rfl) ?_
                  repeat (go_big_quiet_step (fail))
                  refine wpQuiet_nil ?_; rintro _ ⟨xq, rfl⟩
                  go_wp2
                  go_ret
                  rw [HF.out]
                  exact Ret.of (grow_ext _ (grow_ext _ HBW.out))
                · have hb1 : decide (g = f.name) = false := by simp [hgf]
                  have hb2 := str_ne hgf
                  have HSQ := Lib.hid (show seenB (l.take (q + 1)) f = false by rw [HSN.out, HSS.out, hb1]; rfl)
                  clear hgf
                  go_wp2_with fail
                  refine wp_region_grows (by kernel_rfl) (by kernel_rfl) ?_
                  repeat (go_big_quiet_step (fail))
                  refine wpQuiet_nil ?_; rintro _ ⟨xq, rfl⟩
                  go_wp2
                  go_roundw
                  case rel => exact ⟨q + 1, by omega, by go_num, ⟨_, by rw [ext_ext]⟩, HSQ.out⟩
                  case measure => simp [intOf]; omega
              · obtain rfl : q = k := by omega
                have HTN := Lib.hid (show fabTo l (q + 1) = true by rw [HS.out, HT.out, HK.out, HSS.out]; rfl)
                go_wp2
                go_roundw
                case rel => exact ⟨q + 1, by omega, by go_num, ext_of (grow_ext _ HBW.out), HTN.out⟩
                case measure => simp [intOf]; omega
      · obtain rfl : k = l.length := by omega
        have HF := Lib.hid (show fabsB l = true by unfold fabsB; rw [HT.out]; simp [h20])
        go_wp2
        go_ret
        rw [HF.out]
        exact Ret.of (by (repeat (first | exact grow_refl _ | refine grow_ext _ ?_ | refine grow_alloc _ ?_ | refine grow_drew ?_)))
  · have hd20 : decide ((20 : Int) < (l.length : Int)) = true := by simp; omega
    have HF := Lib.hid (show fabsB l = false by unfold fabsB; simp [h20])
    go_enter Try.func29, Try.ntmps29
    go_wp2
    go_ret
    rw [HF.out]
    exact Ret.of (by (repeat (first | exact grow_refl _ | refine grow_ext _ ?_ | refine grow_alloc _ ?_ | refine grow_drew ?_)))

end Go.Proofs.Ytolcpkpfndnkbaa

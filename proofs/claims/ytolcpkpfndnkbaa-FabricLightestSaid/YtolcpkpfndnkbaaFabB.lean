/- fabric.Valid: whether fabrics are valid. -/
import Derived.Test.YtolcpkpfndnkbaaFabA
import Derived.Test.YtolcpkpfndnkbaaLawForms0
namespace Go.Proofs.Ytolcpkpfndnkbaa
open Go.RowKit

theorem NamesMap.below {w w' : World} {b n : Nat} {l : List Fb} (h : NamesMap w b n l) (hb : Below w.heap.size w w') : NamesMap w' b n l := by
  obtain ⟨x, rfl⟩ := ext_of hb; exact h.ext x
theorem NamesMap.made (w : World) : NamesMap (w.alloc (.map #[] 0)) w.heap.size 0 [] :=
  ⟨.map [], World.ownsMap_made _ _ _ _, ⟨_, rfl⟩, fun s => by simp; rfl⟩
theorem NamesMap.put {w' : World} {b n : Nat} {l : List Fb} {f : Fb} {D : DataW Unit} (h2 : Maps.IsMap D) (h3 : ∀ s : List UInt8, D.atKey (.string s) (.lit (.bool false)) = .lit (.bool (decide (s ∈ l.map fun g => g.name.data.toList))))
    (h : w'.ownsMap Try.prog 9 (plainElem Try.prog 4) b n (D.put (.string f.name.data.toList) (.lit (.bool true)))) : NamesMap w' b n (l ++ [f]) := by
  refine ⟨_, h, Maps.IsMap.put h2 _ _, fun s => ?_⟩
  by_cases he : s = f.name.data.toList
  · subst he
    rw [Maps.atKey_put_same h2 (by trivial)]
    simp
  · rw [Maps.atKey_put_other (by simpa using he), h3, bool_lit l f s he]

set_option maxRecDepth 100000 in
set_option maxHeartbeats 4000000 in
theorem fabValid_c (l : List Fb) (v : Value) (w : World) (hl : Fabs w v l) :
    Calls Try.prog 28 #[v] w (Ret w (.bool (fabsB l))) := by
  obtain ⟨a, cap, rfl, hcap, hcap2, hcell⟩ := hl.shape
  have HC := Lib.hid hcell
  clear hcell hl
  by_cases h20 : l.length ≤ 20
  · have hd20 : decide ((20 : Int) < (l.length : Int)) = false := by simp; omega
    have hmm := @run_makeMap Try.prog
    go_enter Try.func28, Try.ntmps28
    go_wp2_with fail
    go_loopw [12] (fun i wr => ∃ k : Nat, k ≤ l.length ∧ i = .int .i64 k ∧ (∃ x, wr = ext w x) ∧ NamesMap wr w.heap.size k (l.take k) ∧ fabTo l k = true) (fun i _ => l.length - (intOf i).toNat)
    case atStart => exact ⟨0, Nat.zero_le _, rfl, ext_of (by first | exact (Below.refl _ _).alloc (Nat.le_refl _) _), NamesMap.made w, rfl⟩
    case round =>
      obtain ⟨k, hk, rfl, ⟨x, rfl⟩, hN, hT⟩ := hrel
      have HN := Lib.hid hN
      have HT := Lib.hid hT
      clear hN hT
      by_cases hlt : k < l.length
      · obtain ⟨hns, b0, off, rfl, c0, c1, c2, c3, c4, c5⟩ := HC.out k hlt
        have HS := Lib.hid (fabTo_succ hlt)
        have HTk := Lib.hid (show l.take (k + 1) = l.take k ++ [l[k]] from List.take_succ_eq_append_getElem hlt)
        obtain ⟨f, hf⟩ : ∃ f, f = l[k] := ⟨_, rfl⟩
        rw [← hf] at hns c0 c1 c2 c3 c4 c5 HS HTk
        clear hf
        obtain ⟨ok, HK⟩ : ∃ r, Hid ((fbOk f && !seenB (l.take k) f) = r) := ⟨_, Lib.hid rfl⟩
        go_upto_region 7 with fail
        refine world_mask (fun W => Below (ext w x).heap.size (ext w x) W ∧ FbAt W (ext w x).heap.size 0 f) _ ?_ ?_
        · refine ⟨by (repeat (first | exact grow_refl _ | refine grow_ext _ ?_ | refine grow_alloc _ ?_ | refine grow_drew ?_)), ?_⟩
          simp [FbAt, go_sem]
        clear c0 c1 c2 c3 c4 c5
        rintro W1 ⟨hB, ⟨c0, c1, c2, c3, c4, c5⟩⟩
        simp only [size_ext] at c0 c1 c2 c3 c4 c5
        have HB := Lib.hid hB
        clear hB
        have HN1 := Lib.hid (HN.out.below HB.out)
        go_cut [55] (fun s wx => s = .bool (!ok) ∧ ∃ x, wx = ext W1 x)
        case first =>
          have hlook := fun y => (HN1.out.ext y).look f hns
          cases hA : nameB f.name
          · go_wp2_with (first | (go_at_call 50; refine (isName_v f.name _ hA hns _).mono ?_; rintro e w' ⟨rfl, y1, rfl⟩) | (go_at_call 38; refine (within_v _ _ _ _ (by assumption) _).mono ?_; rintro e w' ⟨rfl, y2, rfl⟩))
            go_meet
            exact ⟨congrArg Value.bool (by rw [← HK.out]; unfold fbOk; simp [*]), ext_of (by (repeat (first | exact grow_refl _ | refine grow_ext _ ?_ | refine grow_alloc _ ?_ | refine grow_drew ?_)))⟩
          · cases hS : seenB (l.take k) f
            · cases h1 : inI f.main 1 16777216
              · go_wp2_with (first | (go_at_call 50; refine (isName_v f.name _ hA hns _).mono ?_; rintro e w' ⟨rfl, y1, rfl⟩) | (go_at_call 38; refine (within_v _ _ _ _ (by assumption) _).mono ?_; rintro e w' ⟨rfl, y2, rfl⟩))
                go_meet
                exact ⟨congrArg Value.bool (by rw [← HK.out]; unfold fbOk; simp [*]), ext_of (by (repeat (first | exact grow_refl _ | refine grow_ext _ ?_ | refine grow_alloc _ ?_ | refine grow_drew ?_)))⟩
              · cases h2 : inI f.cross 1 16777216
                · go_wp2_with (first | (go_at_call 50; refine (isName_v f.name _ hA hns _).mono ?_; rintro e w' ⟨rfl, y1, rfl⟩) | (go_at_call 38; refine (within_v _ _ _ _ (by assumption) _).mono ?_; rintro e w' ⟨rfl, y2, rfl⟩))
                  go_meet
                  exact ⟨congrArg Value.bool (by rw [← HK.out]; unfold fbOk; simp [*]), ext_of (by (repeat (first | exact grow_refl _ | refine grow_ext _ ?_ | refine grow_alloc _ ?_ | refine grow_drew ?_)))⟩
                · cases h3 : inI f.length 1 20000
                  · go_wp2_with (first | (go_at_call 50; refine (isName_v f.name _ hA hns _).mono ?_; rintro e w' ⟨rfl, y1, rfl⟩) | (go_at_call 38; refine (within_v _ _ _ _ (by assumption) _).mono ?_; rintro e w' ⟨rfl, y2, rfl⟩))
                    go_meet
                    exact ⟨congrArg Value.bool (by rw [← HK.out]; unfold fbOk; simp [*]), ext_of (by (repeat (first | exact grow_refl _ | refine grow_ext _ ?_ | refine grow_alloc _ ?_ | refine grow_drew ?_)))⟩
                  · cases h4 : inI f.width 1 20000
                    · go_wp2_with (first | (go_at_call 50; refine (isName_v f.name _ hA hns _).mono ?_; rintro e w' ⟨rfl, y1, rfl⟩) | (go_at_call 38; refine (within_v _ _ _ _ (by assumption) _).mono ?_; rintro e w' ⟨rfl, y2, rfl⟩))
                      go_meet
                      exact ⟨congrArg Value.bool (by rw [← HK.out]; unfold fbOk; simp [*]), ext_of (by (repeat (first | exact grow_refl _ | refine grow_ext _ ?_ | refine grow_alloc _ ?_ | refine grow_drew ?_)))⟩
                    · cases h5 : inI f.mass 1 16777216
                      · go_wp2_with (first | (go_at_call 50; refine (isName_v f.name _ hA hns _).mono ?_; rintro e w' ⟨rfl, y1, rfl⟩) | (go_at_call 38; refine (within_v _ _ _ _ (by assumption) _).mono ?_; rintro e w' ⟨rfl, y2, rfl⟩))
                        go_meet
                        exact ⟨congrArg Value.bool (by rw [← HK.out]; unfold fbOk; simp [*]), ext_of (by (repeat (first | exact grow_refl _ | refine grow_ext _ ?_ | refine grow_alloc _ ?_ | refine grow_drew ?_)))⟩
                      · go_wp2_with (first | (go_at_call 50; refine (isName_v f.name _ hA hns _).mono ?_; rintro e w' ⟨rfl, y1, rfl⟩) | (go_at_call 38; refine (within_v _ _ _ _ (by assumption) _).mono ?_; rintro e w' ⟨rfl, y2, rfl⟩))
                        go_meet
                        exact ⟨congrArg Value.bool (by rw [← HK.out]; unfold fbOk; simp [*]), ext_of (by (repeat (first | exact grow_refl _ | refine grow_ext _ ?_ | refine grow_alloc _ ?_ | refine grow_drew ?_)))⟩
            · go_wp2_with (first | (go_at_call 50; refine (isName_v f.name _ hA hns _).mono ?_; rintro e w' ⟨rfl, y1, rfl⟩) | (go_at_call 38; refine (within_v _ _ _ _ (by assumption) _).mono ?_; rintro e w' ⟨rfl, y2, rfl⟩))
              go_meet
              exact ⟨congrArg Value.bool (by rw [← HK.out]; unfold fbOk; simp [*]), ext_of (by (repeat (first | exact grow_refl _ | refine grow_ext _ ?_ | refine grow_alloc _ ?_ | refine grow_drew ?_)))⟩
        case rest =>
          obtain ⟨rfl, y, rfl⟩ := hcut
          cases ok
          · have HF := Lib.hid (show fabsB l = false by unfold fabsB; rw [fabTo_false (k := k + 1) (by omega) (by rw [HS.out, HK.out]; simp)]; simp)
            go_wp2
            go_ret
            rw [HF.out]
            exact Ret.of (grow_ext _ ((grow_ext _ (grow_refl w)).trans (HB.out.mono (by simp [size_ext]))))
          · obtain ⟨D, m1, m2, m3⟩ := HN1.out.ext y
            have M1 := Lib.hid m1
            have M2 := Lib.hid m2
            have M3 := Lib.hid m3
            clear m1 m2 m3
            go_wp2_with (at_mapUpdate; refine wpList_mapUpdate_own _ rfl _ _ _ 76 rfl 9 4 names_law Try.underlying76 _ w.heap.size k D rfl M1.out (by unfold maxLen; omega) _ _ (.string f.name.data.toList) rfl rfl (WideMaps.keyOf_string_mk Try.underlying9 (by unfold maxLen; exact hns)) (.lit (.bool true)) [] (plainElem_bool Try.underlying4 true) ?_; intro w2 hown2 hgrow2)
            have HW2 := ext_of (w := w) (Below.grown (grow_ext y ((grow_ext x (grow_refl w)).trans (HB.out.mono (by simp [size_ext])))) hgrow2 (by have := HB.out.size; simp only [size_ext] at this ⊢; omega) (fun k hk => by cases hk; exact Nat.le_refl _))
            have HN2 := Lib.hid (NamesMap.put M2.out M3.out hown2)
            clear hgrow2 hown2
            go_roundw
            case rel => exact ⟨k + 1, by omega, by go_num, HW2, by rw [HTk.out]; exact HN2.out, by rw [HS.out, HT.out, HK.out]; rfl⟩
            case measure => simp [intOf]; omega
      · obtain rfl : k = l.length := by omega
        have HF := Lib.hid (show fabsB l = true by unfold fabsB; rw [HT.out]; simp [h20])
        go_wp2
        go_ret
        rw [HF.out]
        exact Ret.of (by (repeat (first | exact grow_refl _ | refine grow_ext _ ?_ | refine grow_alloc _ ?_ | refine grow_drew ?_)))
  · have hd20 : decide ((20 : Int) < (l.length : Int)) = true := by simp; omega
    have HF := Lib.hid (show fabsB l = false by unfold fabsB; simp [h20])
    go_enter Try.func28, Try.ntmps28
    go_wp2
    go_ret
    rw [HF.out]
    exact Ret.of (by (repeat (first | exact grow_refl _ | refine grow_ext _ ?_ | refine grow_alloc _ ?_ | refine grow_drew ?_)))

end Go.Proofs.Ytolcpkpfndnkbaa

/- The reference's cuts of a box along an axis. -/
import Derived.Test.YtafkibnkpcmmgaaPlainB
import Derived.Test.YtafkibnkpcmmgaaRefD
namespace Go.Proofs.Ytafkibnkpcmmgaa
open Go.RowKit

/-- The next cut, after the first q ends of a box. -/
def stepTo (last nx : Int) (k : Int) (x : Bx) (q : Nat) : Int := if q = 0 then nx else if q = 1 then stepN last nx (x.lo k) else stepN last (stepN last nx (x.lo k)) (x.hi k)
theorem stepTo_two (l : List Bx) (last hi k : Int) (j : Nat) (h : j < l.length) : stepTo last (nextL last hi (endsL (l.take j) k)) k l[j] 2 = nextL last hi (endsL (l.take (j + 1)) k) := by
  rw [endsL_take l k j h, nextL_snoc]; rfl
theorem stepN_pos {last nx n : Int} (h : last < n ∧ n < nx) : stepN last nx n = n := if_pos h
theorem stepN_neg {last nx n : Int} (h : ¬ (last < n ∧ n < nx)) : stepN last nx n = nx := if_neg h
def lenOf : Value → Nat
  | .slice _ n _ => n
  | _ => 0

set_option maxHeartbeats 4000000 in
theorem refCuts_c (l : List Bx) (v : Value) (b : Bx) (k : Int) (hk : 0 ≤ k ∧ k ≤ 2) (w : World) (hl : Boxes w v l) (hlen : l.length ≤ 1000) (hb : b.lo k ≤ b.hi k) :
    Calls Try.prog 99 #[v, (.agg #[.int .i64 b.lx, .int .i64 b.ly, .int .i64 b.lz, .int .i64 b.hx, .int .i64 b.hy, .int .i64 b.hz]), .int .i64 k] w (RetOwn w 3 1 (cutsB l b k).length ((cutsB l b k).map (Value.int .i64))) := by
  obtain ⟨h0, e0, hq⟩ := cutsB_facts (l := l) hb
  have hcl := cutsB_length l b k
  generalize cutsB l b k = C at h0 e0 hq hcl
  have HQ := Lib.hid (show ∀ m (h1 : 1 ≤ m) (h2 : m < C.length) (h3 : m - 1 < C.length), C[m - 1] < b.hi k ∧ C[m] = nextL C[m - 1] (b.hi k) (endsL l k) from fun m h1 h2 h3 => by
    have := (hq (m - 1) h3).1 (by omega)
    have e : m - 1 + 1 = m := by omega
    simpa only [e] using this)
  have HL := Lib.hid (show ∀ m (h1 : 1 ≤ m) (h2 : m = C.length) (h3 : m - 1 < C.length), C[m - 1] = b.hi k from fun m h1 h2 h3 => (hq (m - 1) h3).2 (by omega))
  have t1 : C.take 1 = [b.lo k] := by rw [← e0]; cases C with
    | nil => simp at h0
    | cons a C => simp
  have HT1 := Lib.hid t1
  clear hq e0 t1 hb
  obtain ⟨a, cap, rfl, hcap, hcap2, hcell⟩ := hl.shape
  have HCE := Lib.hid hcell
  clear hl hcell
  go_enter Try.func99, Try.ntmps99
  go_wp2_with fail
  go_at_call 13; refine (coordLo_c b k hk _).mono ?_; rintro e w' ⟨rfl, x0, rfl⟩
  go_wp2_with fail
  go_loopw [7] (fun v7 wr => ∃ m : Nat, 1 ≤ m ∧ m ≤ C.length ∧ (∃ x, wr = ext (w.alloc (.cells #[.int .i64 b.lx, .int .i64 b.ly, .int .i64 b.lz, .int .i64 b.hx, .int .i64 b.hy, .int .i64 b.hz] 28)) x) ∧ wr.ownsRow (w.alloc (.cells #[.int .i64 b.lx, .int .i64 b.ly, .int .i64 b.lz, .int .i64 b.hx, .int .i64 b.hy, .int .i64 b.hz] 28)).heap.size 3 1 v7 m ((C.take m).map (Value.int .i64))) (fun v7 wr => C.length - lenOf v7)
  case atStart =>
    refine ⟨1, Nat.le_refl _, h0, ext_of (by (repeat (first | exact grow_refl _ | refine grow_ext _ ?_ | refine grow_alloc _ ?_ | refine grow_drew ?_))), ?_⟩
    exact own_lit _ _ _ _ _ (by simp [size_ext]) (by simp [size_ext]) (by decide) rfl (by simp [HT1.out])
  case round =>
    obtain ⟨m, hm1, hmC, ⟨x1, rfl⟩, hown⟩ := hrel
    obtain ⟨a7, cap7, rfl, s1, s2, s3⟩ := own_shape hown
    obtain ⟨g, rfl, hg, hc⟩ := s3 (by omega)
    have hm3 : m - 1 < C.length := by omega
    have k1 := hc (m - 1) (by omega)
    rw [List.getElem?_map, List.getElem?_take_of_lt (by omega), List.getElem?_eq_getElem hm3, Option.map_some] at k1
    clear s3 hc
    unfold maxLen at s2
    have p1 : IntKind.i64.wrap ((m : Int) - 1) = (m : Int) - 1 := IntWalk.i64_in _ (by omega)
    have p2 : (0 : Int) ≤ (m : Int) - 1 := by omega
    have p3 : (m : Int) - 1 < (m : Int) := by omega
    have p4 : ((m : Int) - 1).toNat = m - 1 := by omega
    have HOWN := Lib.hid hown
    clear hown
    by_cases hlt : m < C.length
    · obtain ⟨f1, f2⟩ := HQ.out m hm1 hlt hm3
      have HF2 := Lib.hid f2
      clear f2
      go_wp2_with fail
      refine wp_region_grows (by kernel_rfl) (by kernel_rfl) ?_
      repeat (go_big_quiet_step ((go_at_call 13; exact Calls.quiet_ext (coordHi_c b k hk _))))
      refine wpQuiet_nil ?_; rintro _ ⟨xq, rfl⟩
      clear p1 p2 p3 p4
      go_wp2_with fail
      go_at_call 13; refine (coordHi_c b k hk _).mono ?_; rintro e w' ⟨rfl, x2, rfl⟩
      clear k1 f1
      go_wp2_with fail
      go_loopw [10, 9] (fun i n wr => ∃ j : Nat, j ≤ l.length ∧ i = .int .i64 j ∧ n = .int .i64 (nextL C[m - 1] (b.hi k) (endsL (l.take j) k)) ∧ ∃ x, wr = ext (ext (w.alloc (.cells #[.int .i64 b.lx, .int .i64 b.ly, .int .i64 b.lz, .int .i64 b.hx, .int .i64 b.hy, .int .i64 b.hz] 28)) x1) x) (fun i _ _ => l.length - (intOf i).toNat)
      case atStart => exact ⟨0, by omega, rfl, rfl, ext_of (by (repeat (first | exact grow_refl _ | refine grow_ext _ ?_ | refine grow_alloc _ ?_ | refine grow_drew ?_)))⟩
      case round =>
        obtain ⟨j, hj, rfl, rfl, y, rfl⟩ := hrel
        by_cases hjl : j < l.length
        · obtain ⟨b', off, rfl, c0, c1, c2, c3, c4, c5⟩ := HCE.out j hjl
          have HST := Lib.hid (stepTo_two l C[m - 1] (b.hi k) k j hjl)
          generalize nextL C[m - 1] (b.hi k) (endsL (l.take j) k) = nx at HST
          go_wp2_with fail
          go_loopw [11, 9] (fun i n wr => ∃ q : Nat, q ≤ 2 ∧ i = .int .i64 q ∧ n = .int .i64 (stepTo C[m - 1] nx k l[j] q) ∧ ∃ x, wr = ext (ext (w.alloc (.cells #[.int .i64 b.lx, .int .i64 b.ly, .int .i64 b.lz, .int .i64 b.hx, .int .i64 b.hy, .int .i64 b.hz] 28)) x1) x) (fun i _ _ => 2 - (intOf i).toNat)
          case atStart => exact ⟨0, by omega, rfl, rfl, ext_of (by (repeat (first | exact grow_refl _ | refine grow_ext _ ?_ | refine grow_alloc _ ?_ | refine grow_drew ?_)))⟩
          case round =>
            obtain ⟨q, hq, rfl, rfl, z, rfl⟩ := hrel
            have hq3 : q = 0 ∨ q = 1 ∨ q = 2 := by omega
            rcases hq3 with rfl | rfl | rfl
            · rw [show stepTo C[m - 1] nx k l[j] 0 = nx from rfl]
              by_cases i1 : C[m - 1] < l[j].lo k ∧ l[j].lo k < nx
              · have HI := Lib.hid (stepN_pos i1)
                obtain ⟨i1, i2⟩ := i1
                go_wp2_with fail
                go_at_call 13; refine (coordLo_c l[j] k hk _).mono ?_; rintro e w' ⟨rfl, z1, rfl⟩
                go_wp2
                go_roundw
                case rel => exact ⟨1, by omega, rfl, by rw [show stepTo C[m - 1] nx k l[j] 1 = stepN C[m - 1] nx (l[j].lo k) from rfl, HI.out], ext_of (by (repeat (first | exact grow_refl _ | refine grow_ext _ ?_ | refine grow_alloc _ ?_ | refine grow_drew ?_)))⟩
                case measure => simp [intOf]
              · have HI := Lib.hid (stepN_neg i1)
                go_wp2_with fail
                go_at_call 13; refine (coordLo_c l[j] k hk _).mono ?_; rintro e w' ⟨rfl, z1, rfl⟩
                go_wp2
                all_goals
                  go_roundw
                  case rel => exact ⟨1, by omega, rfl, by rw [show stepTo C[m - 1] nx k l[j] 1 = stepN C[m - 1] nx (l[j].lo k) from rfl, HI.out], ext_of (by (repeat (first | exact grow_refl _ | refine grow_ext _ ?_ | refine grow_alloc _ ?_ | refine grow_drew ?_)))⟩
                  case measure => simp [intOf]
            · have HX := Lib.hid (show stepTo C[m - 1] nx k l[j] 2 = stepN C[m - 1] (stepTo C[m - 1] nx k l[j] 1) (l[j].hi k) from rfl)
              generalize stepTo C[m - 1] nx k l[j] 1 = n1 at HX
              by_cases i1 : C[m - 1] < l[j].hi k ∧ l[j].hi k < n1
              · have HI := Lib.hid (stepN_pos i1)
                obtain ⟨i1, i2⟩ := i1
                go_wp2_with fail
                go_at_call 13; refine (coordLo_c l[j] k hk _).mono ?_; rintro e w' ⟨rfl, z1, rfl⟩
                go_wp2_with fail
                go_at_call 13; refine (coordHi_c l[j] k hk _).mono ?_; rintro e w' ⟨rfl, z2, rfl⟩
                go_wp2
                go_roundw
                case rel => exact ⟨2, by omega, rfl, by rw [HX.out, HI.out], ext_of (by (repeat (first | exact grow_refl _ | refine grow_ext _ ?_ | refine grow_alloc _ ?_ | refine grow_drew ?_)))⟩
                case measure => simp [intOf]
              · have HI := Lib.hid (stepN_neg i1)
                go_wp2_with fail
                go_at_call 13; refine (coordLo_c l[j] k hk _).mono ?_; rintro e w' ⟨rfl, z1, rfl⟩
                go_wp2_with fail
                go_at_call 13; refine (coordHi_c l[j] k hk _).mono ?_; rintro e w' ⟨rfl, z2, rfl⟩
                go_wp2
                all_goals
                  go_roundw
                  case rel => exact ⟨2, by omega, rfl, by rw [HX.out, HI.out], ext_of (by (repeat (first | exact grow_refl _ | refine grow_ext _ ?_ | refine grow_alloc _ ?_ | refine grow_drew ?_)))⟩
                  case measure => simp [intOf]
            · rw [HST.out]
              go_wp2
              go_roundw
              case rel => exact ⟨j + 1, by omega, by go_num, rfl, ext_of (by (repeat (first | exact grow_refl _ | refine grow_ext _ ?_ | refine grow_alloc _ ?_ | refine grow_drew ?_)))⟩
              case measure => simp [intOf]; omega
        · rw [List.take_of_length_le (by omega), ← HF2.out]
          have hown2 := own_ext HOWN.out y
          have hlm : (C.take m).length = m := by simp; omega
          have HLM := Lib.hid hlm
          clear hlm
          go_wp2_with (at_builtin; refine app_own rfl _ _ 45 rfl 3 (.int .i64 0) 1 8 Try.underlying45 info_int rfl (by decide) (w.alloc (.cells #[.int .i64 b.lx, .int .i64 b.ly, .int .i64 b.lz, .int .i64 b.hx, .int .i64 b.hy, .int .i64 b.hz] 28)) _ _ _ _ rfl (hown2.alloc _) _ 1 1 [.int .i64 C[m]] rfl rfl (cells_new ?_ _ _ _ rfl) (by simp [Value.oneCell']) ?_ (by decide) ?_ ?_; (simp [size_ext]); omega; (repeat (first | exact grow_refl _ | refine grow_ext _ ?_ | refine grow_alloc _ ?_ | refine grow_drew ?_)); intro v' x' hown3 hgrow)
          go_roundw
          case rel => exact ⟨m + 1, by omega, by omega, ⟨_, rfl⟩, by rw [List.take_succ_eq_append_getElem hlt, List.map_append]; exact hown3⟩
          case measure =>
            obtain ⟨a8, cap8, rfl, _⟩ := own_shape hown3
            simp [lenOf]; omega
    · obtain rfl : m = C.length := by omega
      have f1 := HL.out _ hm1 rfl hm3
      have f2 : ¬ (C[C.length - 1] < b.hi k) := by omega
      rw [List.take_length] at HOWN
      clear f1
      go_wp2_with fail
      refine wp_region_grows (by kernel_rfl) (by kernel_rfl) ?_
      repeat (go_big_quiet_step ((go_at_call 13; exact Calls.quiet_ext (coordHi_c b k hk _))))
      refine wpQuiet_nil ?_; rintro _ ⟨xq, rfl⟩
      clear p1 p2 p3 p4
      go_wp2
      go_ret
      exact ⟨_, rfl, own_mono (own_ext HOWN.out _) (by simp), ext_of (by (repeat (first | exact grow_refl _ | refine grow_ext _ ?_ | refine grow_alloc _ ?_ | refine grow_drew ?_)))⟩

end Go.Proofs.Ytafkibnkpcmmgaa

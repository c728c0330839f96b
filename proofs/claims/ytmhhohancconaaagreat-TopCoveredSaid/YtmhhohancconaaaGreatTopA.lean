/- TopCovered: the plain law; a finding among findings; a point near a leg. -/
import Derived.Test.YtmhhohancconaaaGreatCovK1
import Derived.Test.YtmhhohancconaaaGreatClaK
namespace Go.Proofs.YtmhhohancconaaaGreat
open Go.RowKit
set_option maxRecDepth 20000

theorem coverL_le {q : Mb} {d : Int} {L : List Bx} {b : Bx} (h : b ∈ L) : coverL q d L ≤ coverC q.l q.m (coreX d b) := by
  have key : ∀ (L : List Bx) (a : Int), L.foldl (fun a b => min a (coverC q.l q.m (coreX d b))) a ≤ a := fun L => by
    induction L with
    | nil => intro a; exact Int.le_refl _
    | cons c L ih => intro a; rw [List.foldl_cons]; exact Int.le_trans (ih _) (by omega)
  unfold coverL
  generalize (2097152 : Int) = a
  induction L generalizing a with
  | nil => simp at h
  | cons c L ih =>
    rw [List.foldl_cons]
    rcases List.mem_cons.1 h with rfl | h
    · exact Int.le_trans (key L _) (by omega)
    · exact ih h _
/-- Around a leg with a cover there is concrete. -/
theorem covered {q : Mb} {d c : Int} {b : Bx} (hb : validB b = true) (hd : sizeB d = true) (hc : 0 ≤ c) (h : c ≤ coverC q.l q.m (coreX d b)) {x y z : Int} (hx : b.lx - (halfI d + c) ≤ x ∧ x ≤ b.hx + (halfI d + c)) (hy : b.ly - (halfI d + c) ≤ y ∧ y ≤ b.hy + (halfI d + c)) (hz : b.lz - (halfI d + c) ≤ z ∧ z ≤ b.hz + (halfI d + c)) :
    containsS q.l q.m ⟨x, y, z, x, y, z⟩ = true := by
  have hv := valid_iff.1 hb
  have hh := halfD_in hd
  have ht : 0 ≤ topC fun n => containsS q.l q.m (grownX (coreX d b) n) := by show 0 ≤ coverC q.l q.m (coreX d b); omega
  have h1 := topC_has ht
  have he : (topC fun n => containsS q.l q.m (grownX (coreX d b) n)) = coverC q.l q.m (coreX d b) := rfl
  rw [he, Int.toNat_of_nonneg (by omega)] at h1
  generalize coverC q.l q.m (coreX d b) = C at *
  refine containsS_sub (b := grownX (coreX d b) C) ?_ (by simp) (contains_iff.2 ?_) h1
  · simp only [coreX, grownX]; omega
  · simp only [coreX, grownX]; omega
theorem findings_has {q : Mb} {l : List Br} {rs : List Rn} {n i : Nat} (hi : i < n) (h : barI q l rs i < q.cover) : markI rs i ∈ coverTo q l rs n := by
  unfold coverTo
  rw [List.mem_filterMap]
  exact ⟨i, List.mem_range.2 hi, by rw [if_pos h]⟩

set_option maxRecDepth 100000 in
set_option maxHeartbeats 2000000 in
theorem indexFd_c (l : List ByteArray) (m : ByteArray) (hm : m ∈ l) (v : Value) (w : World) (hl : Fds w v l) :
    Calls Tryz.prog 28 #[v, .agg #[.int .i64 1, .string m]] w (fun e W => ∃ k : Nat, e = .returned (.int .i64 k) ∧ ∃ x, W = ext w x) := by
  obtain ⟨a, cap, rfl, h2, h3, h4⟩ := hl
  have H4 := Lib.hid h4
  clear h4
  have hn : l.length ≤ 9223372036854775807 := by omega
  go_enter Tryz.func28, Tryz.ntmps28
  go_wp2_with fail
  refine world_mask (fun W => (∃ z, W = ext w z) ∧ FdAt W w.heap.size 0 m) _ ⟨ext_of (by (repeat (first | exact grow_refl _ | refine grow_ext _ ?_ | refine grow_alloc _ ?_ | refine grow_drew ?_))), by simp [FdAt, go_sem]⟩ ?_
  rintro W0 ⟨hz, hp⟩
  have HZ := Lib.hid hz
  have HP := Lib.hid hp
  clear hz hp
  go_loopw [8] (fun i wr => ∃ k : Nat, k ≤ l.length ∧ i = .int .i64 k ∧ (∃ x, wr = ext W0 x) ∧ m ∈ l.drop k) (fun i _ => l.length - (intOf i).toNat)
  case atStart => exact ⟨0, by omega, rfl, ext_of (Below.refl _ _), by simpa using hm⟩
  case round =>
    obtain ⟨k, hk, rfl, ⟨x, rfl⟩, hdr⟩ := hrel
    have HB := Lib.hid (show Below w.heap.size w (ext W0 x) by obtain ⟨z, e⟩ := HZ.out; rw [e, ext_ext]; exact below_ext _ _)
    have hlt : k < l.length := by
      rcases Nat.lt_or_ge k l.length with h | h
      · exact h
      · rw [List.drop_of_length_le h] at hdr; simp at hdr
    rw [List.drop_eq_getElem_cons hlt] at hdr
    obtain ⟨b, off, rfl, c0, c1⟩ := H4.out k hlt
    obtain ⟨y, ey⟩ := ext_of HB.out
    have c0 := cell_ext_some c0 y
    have c1 := cell_ext_some c1 y
    rw [← ey] at c0 c1
    obtain ⟨d0, d1⟩ := HP.out
    have d0 := cell_ext_some d0 x
    have d1 := cell_ext_some d1 x
    simp only [Nat.zero_add] at d1
    have q1 : (0 : Int) ≤ (k : Int) := by omega
    have q2 : (k : Int) < (l.length : Int) := by omega
    have HDR := Lib.hid hdr
    clear hdr
    generalize l[k] = f at *
    clear ey hm
    cases he : (m.toList == f.toList)
    · have HNX := Lib.hid (show m ∈ l.drop (k + 1) by
        rcases List.mem_cons.1 HDR.out with h | h
        · exfalso
          rw [h, sEq rfl] at he
          cases he
        · exact h)
      go_wp2_with fail
      refine wp_region_grows (by kernel_rfl) (by kernel_rfl) ?_
      repeat (go_big_quiet_step (fail))
      refine wpQuiet_nil ?_; rintro _ ⟨xq, rfl⟩
      go_wp2
      go_roundw
      case rel => exact ⟨k + 1, by omega, by go_num, ⟨_, ext_ext _ _ _⟩, HNX.out⟩
      case measure => simp [intOf]; omega
    · go_wp2_with fail
      refine wp_region_grows (by kernel_rfl) (by kernel_rfl) ?_
      repeat (go_big_quiet_step (fail))
      refine wpQuiet_nil ?_; rintro _ ⟨xq, rfl⟩
      go_wp2
      go_ret
      exact ⟨k, rfl, ext_of (HB.out.trans (Below.mono (by (repeat (first | exact grow_refl _ | refine grow_ext _ ?_ | refine grow_alloc _ ?_ | refine grow_drew ?_))) HB.out.size))⟩
set_option maxHeartbeats 1000000 in
theorem containsFd_c (l : List ByteArray) (m : ByteArray) (hm : m ∈ l) (v : Value) (w : World) (hl : Fds w v l) :
    Calls Tryz.prog 12 #[v, .agg #[.int .i64 1, .string m]] w (Ret w (.bool true)) := by
  obtain ⟨a, c, rfl, -, -, -⟩ := hl.shape
  have HC := Lib.hid (fun w hl => indexFd_c l m hm (.slice a l.length c) w hl)
  have HL := Lib.hid hl
  clear hl hm
  go_enter Tryz.func12, Tryz.ntmps12
  go_wp2_with fail
  go_at_call 28; refine (HC.out _ (HL.out.below (by (repeat (first | exact grow_refl _ | refine grow_ext _ ?_ | refine grow_alloc _ ?_ | refine grow_drew ?_))))).mono ?_; rintro e w' ⟨k, rfl, x, rfl⟩
  have d1 : decide ((0 : Int) ≤ (k : Int)) = true := by simp
  go_wp2
  go_ret
  exact Ret.of (by (repeat (first | exact grow_refl _ | refine grow_ext _ ?_ | refine grow_alloc _ ?_ | refine grow_drew ?_)))

end Go.Proofs.YtmhhohancconaaaGreat

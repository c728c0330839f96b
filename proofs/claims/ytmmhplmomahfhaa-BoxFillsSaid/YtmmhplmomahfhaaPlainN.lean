/- The plain law of nearest points: along one axis, and of squares. -/
import Derived.Test.YtmmhplmomahfhaaBoxH
import Derived.Test.YtmmhplmomahfhaaRefB
import Derived.Test.YtmmhplmomahfhaaLawFns
namespace Go.Proofs.Ytmmhplmomahfhaa
open Go.RowKit

def gap1 (al ah bl bh : Int) : Int := max 0 (max (bl - ah) (al - bh))
theorem near_in {al ah bl bh : Int} (h1 : al ≤ ah) (h2 : bl ≤ bh) : al ≤ (nearI al ah bl bh).1 ∧ (nearI al ah bl bh).1 ≤ ah ∧ bl ≤ (nearI al ah bl bh).2 ∧ (nearI al ah bl bh).2 ≤ bh := by
  rcases near_tri al ah bl bh with ⟨g, e, f⟩ | ⟨g, g', e, f⟩ | ⟨g, g', e, f⟩ <;> rw [e, f] <;> omega
theorem near_sq {al ah bl bh : Int} (h1 : al ≤ ah) (h2 : bl ≤ bh) :
    ((nearI al ah bl bh).1 - (nearI al ah bl bh).2) * ((nearI al ah bl bh).1 - (nearI al ah bl bh).2) = gap1 al ah bl bh * gap1 al ah bl bh := by
  have key : ∀ x g : Int, (x = g ∨ x = - g) → x * x = g * g := fun x g h => by
    rcases h with rfl | rfl
    · rfl
    · rw [Int.neg_mul_neg]
  apply key
  unfold gap1
  rcases near_tri al ah bl bh with ⟨g, e, f⟩ | ⟨g, g', e, f⟩ | ⟨g, g', e, f⟩ <;> rw [e, f] <;> omega
theorem near_le {al ah bl bh P Q : Int} (h1 : al ≤ P) (h2 : P ≤ ah) (h3 : bl ≤ Q) (h4 : Q ≤ bh) : gap1 al ah bl bh * gap1 al ah bl bh ≤ (P - Q) * (P - Q) := by
  have key : ∀ x g : Int, 0 ≤ g → (g ≤ x ∨ g ≤ - x) → g * g ≤ x * x := fun x g h0 h => by
    rcases h with h | h
    · exact Int.mul_le_mul h h h0 (by omega)
    · have := Int.mul_le_mul h h h0 (by omega)
      rwa [Int.neg_mul_neg] at this
  apply key
  · unfold gap1; omega
  · unfold gap1; omega
theorem near_swap {al ah bl bh : Int} (h1 : al ≤ ah) (h2 : bl ≤ bh) : nearI bl bh al ah = ((nearI al ah bl bh).2, (nearI al ah bl bh).1) := by
  have a := near_tri al ah bl bh
  have b := near_tri bl bh al ah
  apply Prod.ext
  · show (nearI bl bh al ah).1 = (nearI al ah bl bh).2
    omega
  · show (nearI bl bh al ah).2 = (nearI al ah bl bh).1
    omega

theorem lo_0 (b : Bx) : b.lo 0 = b.lx := rfl
theorem lo_1 (b : Bx) : b.lo 1 = b.ly := rfl
theorem lo_2 (b : Bx) : b.lo 2 = b.lz := rfl
theorem hi_0 (b : Bx) : b.hi 0 = b.hx := rfl
theorem hi_1 (b : Bx) : b.hi 1 = b.hy := rfl
theorem hi_2 (b : Bx) : b.hi 2 = b.hz := rfl
def nearA (a b : Bx) : Bx := ⟨(nearP a b 0).1, (nearP a b 1).1, (nearP a b 2).1, (nearP a b 0).1, (nearP a b 1).1, (nearP a b 2).1⟩
def nearB (a b : Bx) : Bx := ⟨(nearP a b 0).2, (nearP a b 1).2, (nearP a b 2).2, (nearP a b 0).2, (nearP a b 1).2, (nearP a b 2).2⟩

theorem nearA_valid {a b : Bx} (ha : validB a = true) (hb : validB b = true) : validB (nearA a b) = true ∧ containsB a (nearA a b) = true := by
  have h1 := valid_iff.1 ha
  have h2 := valid_iff.1 hb
  have k0 := near_in (al := a.lx) (ah := a.hx) (bl := b.lx) (bh := b.hx) (by omega) (by omega)
  have k1 := near_in (al := a.ly) (ah := a.hy) (bl := b.ly) (bh := b.hy) (by omega) (by omega)
  have k2 := near_in (al := a.lz) (ah := a.hz) (bl := b.lz) (bh := b.hz) (by omega) (by omega)
  rw [valid_iff, contains_iff]
  unfold nearA nearP
  simp only [lo_0, lo_1, lo_2, hi_0, hi_1, hi_2]
  omega
theorem nearB_valid {a b : Bx} (ha : validB a = true) (hb : validB b = true) : validB (nearB a b) = true ∧ containsB b (nearB a b) = true := by
  have h1 := valid_iff.1 ha
  have h2 := valid_iff.1 hb
  have k0 := near_in (al := a.lx) (ah := a.hx) (bl := b.lx) (bh := b.hx) (by omega) (by omega)
  have k1 := near_in (al := a.ly) (ah := a.hy) (bl := b.ly) (bh := b.hy) (by omega) (by omega)
  have k2 := near_in (al := a.lz) (ah := a.hz) (bl := b.lz) (bh := b.hz) (by omega) (by omega)
  rw [valid_iff, contains_iff]
  unfold nearB nearP
  simp only [lo_0, lo_1, lo_2, hi_0, hi_1, hi_2]
  omega
theorem along_gap1 (a b : Bx) (k : Int) : max 0 (alongI a b k) = gap1 (a.lo k) (a.hi k) (b.lo k) (b.hi k) := rfl
theorem square_eq {a b : Bx} (ha : validB a = true) (hb : validB b = true) :
    squareP (nearP a b 0).1 (nearP a b 1).1 (nearP a b 2).1 (nearP a b 0).2 (nearP a b 1).2 (nearP a b 2).2 = squareI a b := by
  have h1 := valid_iff.1 ha
  have h2 := valid_iff.1 hb
  unfold squareP squareI nearP
  simp only [along_gap1, lo_0, lo_1, lo_2, hi_0, hi_1, hi_2]
  rw [near_sq (by omega) (by omega), near_sq (by omega) (by omega), near_sq (by omega) (by omega)]
/-- A point in a box. -/
def InB (a : Bx) (x y z : Int) : Prop := (a.lx ≤ x ∧ x ≤ a.hx) ∧ (a.ly ≤ y ∧ y ≤ a.hy) ∧ (a.lz ≤ z ∧ z ≤ a.hz)
theorem square_le {a b : Bx} {x y z x' y' z' : Int} (h1 : InB a x y z) (h2 : InB b x' y' z') : squareI a b ≤ squareP x y z x' y' z' := by
  obtain ⟨a1, a2, a3⟩ := h1
  obtain ⟨b1, b2, b3⟩ := h2
  have k0 := near_le a1.1 a1.2 b1.1 b1.2
  have k1 := near_le a2.1 a2.2 b2.1 b2.2
  have k2 := near_le a3.1 a3.2 b3.1 b3.2
  unfold squareP squareI
  simp only [along_gap1, lo_0, lo_1, lo_2, hi_0, hi_1, hi_2]
  omega
theorem square_swap (a b : Bx) : squareI b a = squareI a b := by
  unfold squareI alongI
  rw [Int.max_comm (a.lo 0 - b.hi 0), Int.max_comm (a.lo 1 - b.hi 1), Int.max_comm (a.lo 2 - b.hi 2)]
theorem nearP_swap {a b : Bx} (ha : validB a = true) (hb : validB b = true) : nearP b a 0 = ((nearP a b 0).2, (nearP a b 0).1) ∧ nearP b a 1 = ((nearP a b 1).2, (nearP a b 1).1) ∧ nearP b a 2 = ((nearP a b 2).2, (nearP a b 2).1) := by
  have h1 := valid_iff.1 ha
  have h2 := valid_iff.1 hb
  unfold nearP
  simp only [lo_0, lo_1, lo_2, hi_0, hi_1, hi_2]
  exact ⟨near_swap (by omega) (by omega), near_swap (by omega) (by omega), near_swap (by omega) (by omega)⟩
theorem InB.wide {a : Bx} (ha : validB a = true) {x y z : Int} (h : InB a x y z) : InW x ∧ InW y ∧ InW z := by
  have h1 := valid_iff.1 ha
  unfold InB at h
  unfold InW
  omega
def U16 (n : Int) : Prop := 0 ≤ n ∧ n ≤ 65535
theorem atI_in {a : Bx} (ha : validB a = true) {x y z : Int} (h1 : U16 x) (h2 : U16 y) (h3 : U16 z) : InB a (atI a.lx a.hx x) (atI a.ly a.hy y) (atI a.lz a.hz z) := by
  have h := valid_iff.1 ha
  exact ⟨at_in (by unfold InW; omega) (by unfold InW; omega) (by omega) h1, at_in (by unfold InW; omega) (by unfold InW; omega) (by omega) h2, at_in (by unfold InW; omega) (by unfold InW; omega) (by omega) h3⟩
theorem near_inA {a b : Bx} (ha : validB a = true) (hb : validB b = true) : InB a (nearP a b 0).1 (nearP a b 1).1 (nearP a b 2).1 := by
  have := contains_iff.1 (nearA_valid ha hb).2
  unfold nearA at this
  simp only at this
  unfold InB; omega
theorem near_inB {a b : Bx} (ha : validB a = true) (hb : validB b = true) : InB b (nearP a b 0).2 (nearP a b 1).2 (nearP a b 2).2 := by
  have := contains_iff.1 (nearB_valid ha hb).2
  unfold nearB at this
  simp only at this
  unfold InB; omega

set_option maxRecDepth 100000 in
set_option maxHeartbeats 1000000 in
theorem within_c (b : Bx) (x y z : Int) (hb : validB b = true) (hx : U16 x) (hy : U16 y) (hz : U16 z) (w : World) :
    Calls Try.prog 26 #[(.agg #[.int .i64 b.lx, .int .i64 b.ly, .int .i64 b.lz, .int .i64 b.hx, .int .i64 b.hy, .int .i64 b.hz]), .int .u16 x, .int .u16 y, .int .u16 z] w (Ret w (.agg #[.int .i64 (atI b.lx b.hx x), .int .i64 (atI b.ly b.hy y), .int .i64 (atI b.lz b.hz z)])) := by
  have h := valid_iff.1 hb
  have H0 := Lib.hid (fun w => within1_c b.lx b.hx x (by unfold InW; omega) (by unfold InW; omega) (by omega) hx w)
  have H1 := Lib.hid (fun w => within1_c b.ly b.hy y (by unfold InW; omega) (by unfold InW; omega) (by omega) hy w)
  have H2 := Lib.hid (fun w => within1_c b.lz b.hz z (by unfold InW; omega) (by unfold InW; omega) (by omega) hz w)
  clear h hb hx hy hz
  go_enter Try.func26, Try.ntmps26
  go_wp2_with fail
  refine wp_region_tail 28 (by kernel_rfl) (by kernel_rfl) ?_; simp only [List.take_succ_cons, List.take_zero, List.drop_succ_cons, List.drop_zero]
  repeat (go_big_quiet_step (first | (go_at_call_of 51 (Value.int .i64 b.lx); exact Calls.quiet_ext (H0.out _)) | (go_at_call_of 51 (Value.int .i64 b.ly); exact Calls.quiet_ext (H1.out _)) | (go_at_call_of 51 (Value.int .i64 b.lz); exact Calls.quiet_ext (H2.out _))))
  refine wpQuiet_nil ?_; rintro _ ⟨xq, rfl⟩
  go_wp2
  refine bodyPost_ret (v := (.agg #[.int .i64 (atI b.lx b.hx x), .int .i64 (atI b.ly b.hy y), .int .i64 (atI b.lz b.hz z)])) (by simp [results, Try.results26, go_sem]) rfl ?_
  exact Ret.of (by (repeat (first | exact grow_refl _ | refine grow_ext _ ?_ | refine grow_alloc _ ?_ | refine grow_drew ?_)))

end Go.Proofs.Ytmmhplmomahfhaa

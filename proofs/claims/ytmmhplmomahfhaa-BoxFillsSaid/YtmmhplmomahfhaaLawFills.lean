/- BoxFills: the walk of the law. -/
import Derived.Test.YtmmhplmomahfhaaAwake
import Derived.Test.YtmmhplmomahfhaaRefD
import Derived.Test.YtmmhplmomahfhaaPlainN
import Derived.Test.YtmmhplmomahfhaaPlainF
import Derived.Test.YtmmhplmomahfhaaClone
import Derived.Test.YtmmhplmomahfhaaLawForms
import Derived.Test.YtmmhplmomahfhaaRefF
import Derived.Deep.RegionHeld3
import Derived.RegionTactic
namespace Go.Proofs.Ytmmhplmomahfhaa
open Go.RowKit

theorem cells_new_ext {w y : World} {g : Nat} (hg : g = w.heap.size) (cs : Array Value) (t : TypeId) (xs : List Value) (hx : cs.toList = xs) : ∀ j u, xs[j]? = some u → (ext (w.alloc (.cells cs t)) y).cell? ((⟨g, 0, none⟩ : Addr).add j) = some u :=
  fun j u hj => cell_ext_some (cells_new hg cs t xs hx j u hj) y

theorem boxes_snoc {w : World} {base : Nat} {e : TypeId} {v : Value} {l : List Bx} {c : Bx} {cs : List Value} (h : w.ownsRow base e 6 v (l.length + 1) (boxCells l ++ cs)) (hc : cs = boxCells [c]) : Boxes w v (l ++ [c]) := by
  subst hc
  rw [← boxCells_append] at h
  exact Boxes.of_own (by simpa using h)

set_option maxHeartbeats 400000 in
theorem fills1_c (c : Bx) (x y z : Int) (g : Nat) (hc : validB c = true) (hp : validB (ptX x y z) = true) (w : World)
    (h0 : w.cell? ⟨g, 0, none⟩ = some (.int .i64 x)) (h1 : w.cell? ⟨g, 1, none⟩ = some (.int .i64 y)) (h2 : w.cell? ⟨g, 2, none⟩ = some (.int .i64 z)) :
    Calls Try.prog 28 #[(.agg #[.int .i64 c.lx, .int .i64 c.ly, .int .i64 c.lz, .int .i64 c.hx, .int .i64 c.hy, .int .i64 c.hz]), .pointer (some ⟨g, 0, none⟩)] w (Ret w (.bool (containsB c (ptX x y z)))) := by
  have HC := Lib.hid hc
  have HP := Lib.hid hp
  clear hc hp
  go_enter Try.func28, Try.ntmps28
  go_wp2_with fail
  refine wp_region_grows (by kernel_rfl) (by kernel_rfl) ?_
  repeat (go_big_quiet_step (first | (go_at_call 24; exact Calls.quiet_ext (lawPoint_c _ _ _ _)) | (go_at_call 23; exact Calls.quiet_ext (Contains_ok c (ptX x y z) HC.out HP.out _))))
  refine wpQuiet_nil ?_; rintro _ ⟨xq, rfl⟩
  go_wp2
  go_ret
  exact Ret.bool rfl (by (repeat (first | exact grow_refl _ | refine grow_ext _ ?_ | refine grow_alloc _ ?_ | refine grow_drew ?_)))

theorem enters_fills1 : Enters 28 := enters_of Try.func28 (by decide) (by simp [Try.f28])

theorem Covers_v (l : List Bx) (v : Value) (b : Bx) (r : Bool) (h : coversB l b = r) (hlen : l.length ≤ 40) (h1 : l.all validB = true) (h2 : validB b = true) (w : World) (hl : Boxes w v l) :
    Calls Try.prog 19 #[v, (.agg #[.int .i64 b.lx, .int .i64 b.ly, .int .i64 b.lz, .int .i64 b.hx, .int .i64 b.hy, .int .i64 b.hz])] w (Ret w (.tuple #[.bool r, .int .i64 0])) := by subst h; exact Covers_ok l v b w hl hlen h1 h2

set_option maxRecDepth 100000 in
set_option maxHeartbeats 4000000 in
theorem lawBoxFills_ok (l : List Bx) (v : Value) (b : Bx) (qx qy qz : Int) (hx : U16 qx) (hy : U16 qy) (hz : U16 qz) (w : World) (hl : Boxes w v l) (hlen : l.length ≤ 8) (hall : l.all validB = true) (hb : validB b = true) :
    Calls Try.prog 6 #[v, (.agg #[.int .i64 b.lx, .int .i64 b.ly, .int .i64 b.lz, .int .i64 b.hx, .int .i64 b.hy, .int .i64 b.hz]), .int .u16 qx, .int .u16 qy, .int .u16 qz] w (Ret w (.bool true)) := by
  obtain ⟨av, capv, rfl, hcap, hcap2, _⟩ := hl.shape
  have HW := Lib.hid (fun w => within_c b qx qy qz hb hx hy hz w)
  have hin := atI_in hb hx hy hz
  generalize atI b.lx b.hx qx = px at HW hin
  generalize atI b.ly b.hy qy = py at HW hin
  generalize atI b.lz b.hz qz = pz at HW hin
  obtain ⟨⟨i1, i2⟩, ⟨i3, i4⟩, ⟨i5, i6⟩⟩ := hin
  have ho := valid_iff.1 hb
  have o0 : b.lx ≤ b.hx := by omega
  have o1 : b.ly ≤ b.hy := by omega
  have o2 : b.lz ≤ b.hz := by omega
  have VL := Lib.hid (show validB (leftX b px) = true by rw [valid_iff]; simp only [leftX]; omega)
  have VR := Lib.hid (show validB (rightX b px) = true by rw [valid_iff]; simp only [rightX]; omega)
  have VP := Lib.hid (show validB (ptX px py pz) = true by rw [valid_iff]; simp only [ptX]; omega)
  have f1 := covers_halves (l := l) (p := px) o0 o1 o2 ⟨i1, i2⟩
  have f2 := fun h => covers_at (l := l) (b := b) (x := px) (y := py) (z := pz) o0 o1 o2 ⟨i1, i2⟩ ⟨i3, i4⟩ ⟨i5, i6⟩ h
  have f3 := fun h => covers_more (l := l) (m := [leftX b px]) (b := b) o0 o1 o2 h
  have f4 := fun h => covers_rest (l := l) (b := b) (p := px) o0 o1 o2 ⟨i1, i2⟩ h
  have f5 : coversB [b] (leftX b px) = true := covers_own (by simp only [leftX]; omega) (by simp only [leftX]; omega) (by simp only [leftX]; omega) (by rw [contains_iff]; simp only [leftX]; omega)
  have f6 := covers_point (l := l) px py pz
  obtain ⟨is, HIS⟩ : ∃ r, Hid (coversB l b = r) := ⟨_, Lib.hid rfl⟩
  obtain ⟨m, HM⟩ : ∃ r, Hid (coversB l (leftX b px) = r) := ⟨_, Lib.hid rfl⟩
  obtain ⟨n, HN⟩ : ∃ r, Hid (coversB l (rightX b px) = r) := ⟨_, Lib.hid rfl⟩
  obtain ⟨one, HO⟩ : ∃ r, Hid (coversB l (ptX px py pz) = r) := ⟨_, Lib.hid rfl⟩
  obtain ⟨more, HR⟩ : ∃ r, Hid (coversB (l ++ [leftX b px]) b = r) := ⟨_, Lib.hid rfl⟩
  rw [HIS.out, HM.out, HN.out] at f1
  rw [HIS.out, HO.out] at f2
  rw [HIS.out, HR.out] at f3
  rw [HN.out, HR.out] at f4
  rw [HO.out] at f6
  have F1 := Lib.hid f1
  have F2 := Lib.hid f2
  have F3 := Lib.hid f3
  have F4 := Lib.hid f4
  have F5 := Lib.hid f5
  have F6 := Lib.hid f6
  have HL := Lib.hid hl
  have HA := Lib.hid hall
  have HV := Lib.hid hb
  have HN8 := Lib.hid hlen
  have hl8 : decide ((8 : Int) < (l.length : Int)) = false := by simp; omega
  clear hl hall hb hlen f1 f2 f3 f4 f5 f6 hx hy hz ho o0 o1 o2
  have HI := Lib.hid (And.intro i1 i2)
  clear i1 i2 i3 i4 i5 i6
  go_enter Try.func6, Try.ntmps6
  go_wp2_with fail
  go_at_call 10; refine (awake_c _).mono ?_; rintro e w' ⟨rfl, x1, rfl⟩
  go_wp2_with fail
  go_at_call 20; refine (refAll_c l _ _ (HL.out.below (by (repeat (first | exact grow_refl _ | refine grow_ext _ ?_ | refine grow_alloc _ ?_ | refine grow_drew ?_))))).mono ?_; rintro e w' ⟨rfl, x2, rfl⟩
  rw [HA.out]
  go_wp2_with fail
  go_at_call 14; refine (refValid_v b _ HV.out _).mono ?_; rintro e w' ⟨rfl, x3, rfl⟩
  go_wp2_with fail
  go_at_call 19; refine (Covers_v l _ b _ HIS.out (by have := HN8.out; omega) HA.out HV.out _ (HL.out.below (by (repeat (first | exact grow_refl _ | refine grow_ext _ ?_ | refine grow_alloc _ ?_ | refine grow_drew ?_))))).mono ?_; rintro e w' ⟨rfl, x4, rfl⟩
  go_wp2_with fail
  go_at_call 26; refine (HW.out _).mono ?_; rintro e w' ⟨rfl, x5, rfl⟩
  go_upto_region 9 with fail
  obtain ⟨g, hg⟩ : ∃ g, g = w.heap.size + 1 + x1.heap.size + x2.heap.size + x3.heap.size + x4.heap.size + x5.heap.size := ⟨_, rfl⟩
  rw [← hg]
  refine world_mask (fun W => Below w.heap.size w W ∧ BoxAt W w.heap.size 0 b ∧ W.cell? ⟨g, 0, none⟩ = some (.int .i64 px) ∧ W.cell? ⟨g, 1, none⟩ = some (.int .i64 py) ∧ W.cell? ⟨g, 2, none⟩ = some (.int .i64 pz)) _ ?_ ?_
  · refine ⟨by (repeat (first | exact grow_refl _ | refine grow_ext _ ?_ | refine grow_alloc _ ?_ | refine grow_drew ?_)), ?_, ?_, ?_, ?_⟩
    all_goals
      subst hg
      simp [BoxAt, go_sem]
  clear hg x1 x2 x3 x4 x5
  rintro W1 ⟨hB, ⟨b0, b1, b2, b3, b4, b5⟩, p0, p1, p2⟩
  have HB := Lib.hid hB
  clear hB
  go_cut [14, 15] (fun s t wx => ∃ p q : Nat, s = .pointer (some ⟨p, 0, none⟩) ∧ t = .pointer (some ⟨q, 0, none⟩) ∧ W1.heap.size ≤ p ∧ W1.heap.size ≤ q ∧ p ≠ q ∧ Below w.heap.size w wx ∧ BoxAt wx w.heap.size 0 b ∧ (wx.cell? ⟨g, 0, none⟩ = some (.int .i64 px) ∧ wx.cell? ⟨g, 1, none⟩ = some (.int .i64 py) ∧ wx.cell? ⟨g, 2, none⟩ = some (.int .i64 pz)) ∧ BoxAt wx p 0 b ∧ BoxAt wx q 0 b ∧ wx.frozen? ⟨p, 3, none⟩ = false ∧ wx.frozen? ⟨q, 0, none⟩ = false)
  case first =>
    go_region_held3 (fun w' => w'.cell? ⟨w.heap.size, 0, none⟩ = some (.int .i64 b.lx) ∧ w'.cell? ⟨w.heap.size, 1, none⟩ = some (.int .i64 b.ly) ∧ w'.cell? ⟨w.heap.size, 2, none⟩ = some (.int .i64 b.lz) ∧ w'.cell? ⟨w.heap.size, 3, none⟩ = some (.int .i64 b.hx) ∧ w'.cell? ⟨w.heap.size, 4, none⟩ = some (.int .i64 b.hy) ∧ w'.cell? ⟨w.heap.size, 5, none⟩ = some (.int .i64 b.hz)) (simp [go_sem, *]) (fail)
    all_goals
      go_wp2_with fail
      go_meet
      refine ⟨_, _, rfl, rfl, by simp, by simp, by simp, ?_, ?_, ⟨?_, ?_, ?_⟩, ?_, ?_, ?_, ?_⟩
      · (repeat (first | exact grow_refl _ | exact HB.out | refine grow_ext _ ?_ | refine grow_alloc _ ?_ | refine grow_drew ?_))
      all_goals simp [BoxAt, go_sem, *]
  case rest =>
    obtain ⟨p, q, rfl, rfl, hp, hq, hne, hB, ⟨b0, b1, b2, b3, b4, b5⟩, ⟨p0, p1, p2⟩, ⟨l0, l1, l2, l3, l4, l5⟩, ⟨r0, r1, r2, r3, r4, r5⟩, fl, fr⟩ := hcut
    have n1 : w.heap.size ≠ p := by have := World.block_lt_of_cell? _ _ ‹W1.cell? ⟨w.heap.size, 0, none⟩ = _›; simp only at this; omega
    have n2 : w.heap.size ≠ q := by have := World.block_lt_of_cell? _ _ ‹W1.cell? ⟨w.heap.size, 0, none⟩ = _›; simp only at this; omega
    have n3 : g ≠ p := by have := World.block_lt_of_cell? _ _ ‹W1.cell? ⟨g, 0, none⟩ = _›; simp only at this; omega
    have n4 : g ≠ q := by have := World.block_lt_of_cell? _ _ ‹W1.cell? ⟨g, 0, none⟩ = _›; simp only at this; omega
    have m1 := n1.symm
    have m2 := n2.symm
    have m3 := n3.symm
    have m4 := n4.symm
    have hne' := hne.symm
    have HP := Lib.hid (show w.heap.size ≤ p ∧ w.heap.size ≤ q by have := HB.out.size; omega)
    have HB1 := Lib.hid hB
    clear hp hq hB
    go_upto_region 10 with fail
    go_cut [] (fun wx => Below w.heap.size w wx ∧ BoxAt wx w.heap.size 0 b ∧ (wx.cell? ⟨g, 0, none⟩ = some (.int .i64 px) ∧ wx.cell? ⟨g, 1, none⟩ = some (.int .i64 py) ∧ wx.cell? ⟨g, 2, none⟩ = some (.int .i64 pz)) ∧ BoxAt wx p 0 (leftX b px) ∧ BoxAt wx q 0 (rightX b px))
    case first =>
      go_region_held3 (fun w' => w'.cell? ⟨g, 0, none⟩ = some (.int .i64 px)) (simp [go_sem, *]) (fail)
      all_goals
        go_wp2_with fail
        go_meet
        refine ⟨?_, ?_, ⟨?_, ?_, ?_⟩, ?_, ?_⟩
        · exact grow_drew (((HB1.out).setCell HP.out.1 _).setCell HP.out.2 _)
        all_goals simp [BoxAt, leftX, rightX, go_sem, *]
    case rest =>
      clear b0 b1 b2 b3 b4 b5 p0 p1 p2 l0 l1 l2 l3 l4 l5 r0 r1 r2 r3 r4 r5 fl fr n1 n2 n3 n4 m1 m2 m3 m4 hne hne'
      obtain ⟨hB, ⟨b0, b1, b2, b3, b4, b5⟩, ⟨p0, p1, p2⟩, ⟨l0, l1, l2, l3, l4, l5⟩, ⟨r0, r1, r2, r3, r4, r5⟩⟩ := hcut
      obtain ⟨W2, rfl⟩ : ∃ W2 : World, W2 = wc := ⟨_, rfl⟩
      have HB2 := Lib.hid hB
      clear hB
      go_wp2_with fail
      go_at_call 19; refine (Covers_v l _ (leftX b px) _ HM.out (by have := HN8.out; omega) HA.out VL.out _ (HL.out.below (by (repeat (first | exact grow_refl _ | exact HB2.out | refine grow_ext _ ?_ | refine grow_alloc _ ?_ | refine grow_drew ?_))))).mono ?_; rintro e w' ⟨rfl, x1, rfl⟩
      go_wp2_with fail
      go_at_call 19; refine (Covers_v l _ (rightX b px) _ HN.out (by have := HN8.out; omega) HA.out VR.out _ (HL.out.below (by (repeat (first | exact grow_refl _ | exact HB2.out | refine grow_ext _ ?_ | refine grow_alloc _ ?_ | refine grow_drew ?_))))).mono ?_; rintro e w' ⟨rfl, x2, rfl⟩
      clear r0 r1 r2 r3 r4 r5
      go_upto_region 13 with fail
      go_cut [90] (fun s wx => s = .bool false ∧ ∃ x, wx = ext W2 x)
      case first =>
        cases m <;> cases n
        all_goals
          have h := F1.out
          simp only [Bool.and_true, Bool.and_false] at h
          subst h
          go_wp2_with fail
          go_meet
          exact ⟨rfl, _, by rw [ext_ext]⟩
      case rest =>
        obtain ⟨rfl, x3, rfl⟩ := hcut
        go_wp2_with fail
        go_at_call 27
        refine Calls.mono (containsFunc_c 28 enters_fills1 #[.pointer (some ⟨g, 0, none⟩)] (fun c => containsB c (ptX px py pz)) l _ _ (HL.out.below (by (repeat (first | exact grow_refl _ | exact HB2.out | refine grow_ext _ ?_ | refine grow_alloc _ ?_ | refine grow_drew ?_)))) (fun c y hc => fills1_c c px py pz g (List.all_eq_true.1 HA.out c hc) VP.out _ (cell_ext_some (cell_ext_some p0 _) _) (cell_ext_some (cell_ext_some p1 _) _) (cell_ext_some (cell_ext_some p2 _) _))) ?_
        rintro e w' ⟨rfl, x4, rfl⟩
        rw [← F6.out]
        go_wp2_with fail
        go_at_call 24; refine (lawPoint_c px py pz _).mono ?_; rintro e w' ⟨rfl, x5, rfl⟩
        go_wp2_with fail
        go_at_call 19; refine (Covers_v l _ (ptX px py pz) _ HO.out (by have := HN8.out; omega) HA.out VP.out _ (HL.out.below (by (repeat (first | exact grow_refl _ | exact HB2.out | refine grow_ext _ ?_ | refine grow_alloc _ ?_ | refine grow_drew ?_))))).mono ?_; rintro e w' ⟨rfl, x6, rfl⟩
        clear p0 p1 p2
        go_upto_region 17 with fail
        go_cut [114] (fun s wx => s = .bool false ∧ ∃ x, wx = ext W2 x)
        case first =>
          cases is <;> cases one
          all_goals first
            | exact absurd (F2.out rfl) Bool.false_ne_true
            | (go_wp2_with fail
               go_meet
               exact ⟨rfl, _, by rw [ext_ext, ext_ext, ext_ext]⟩)
        case rest =>
          obtain ⟨rfl, x7, rfl⟩ := hcut
          go_upto_region 19 with fail
          go_cut [23, 24] (fun s t wx => s = .bool more ∧ t = .int .i64 0 ∧ ∃ x, wx = ext W2 x)
          case first =>
            go_region_held3 (fun w' => (w'.cell? ⟨w.heap.size, 0, none⟩ = some (.int .i64 b.lx) ∧ w'.cell? ⟨w.heap.size, 1, none⟩ = some (.int .i64 b.ly) ∧ w'.cell? ⟨w.heap.size, 2, none⟩ = some (.int .i64 b.lz) ∧ w'.cell? ⟨w.heap.size, 3, none⟩ = some (.int .i64 b.hx) ∧ w'.cell? ⟨w.heap.size, 4, none⟩ = some (.int .i64 b.hy) ∧ w'.cell? ⟨w.heap.size, 5, none⟩ = some (.int .i64 b.hz)) ∧ (w'.cell? ⟨p, 0, none⟩ = some (.int .i64 (leftX b px).lx) ∧ w'.cell? ⟨p, 1, none⟩ = some (.int .i64 (leftX b px).ly) ∧ w'.cell? ⟨p, 2, none⟩ = some (.int .i64 (leftX b px).lz) ∧ w'.cell? ⟨p, 3, none⟩ = some (.int .i64 (leftX b px).hx) ∧ w'.cell? ⟨p, 4, none⟩ = some (.int .i64 (leftX b px).hy) ∧ w'.cell? ⟨p, 5, none⟩ = some (.int .i64 (leftX b px).hz))) (simp [go_sem, *])
              (first
                | (go_at_call 29; refine Calls.mono (clone_c l _ _ (HL.out.below (by (repeat (first | exact grow_refl _ | exact HB2.out | refine grow_ext _ ?_ | refine grow_alloc _ ?_ | refine grow_drew ?_)))) (by have := HN8.out; omega)) ?_; rintro e w' ⟨v5, rfl, hown0, y5, rfl⟩; have hown := own_mono (base' := W2.heap.size) hown0 (by simp [size_ext] <;> omega); clear hown0; simp only [ext_drew] at hown)
                | (go_at_call 19; refine Calls.mono (Covers_v (l ++ [leftX b px]) _ b _ HR.out (by have := HN8.out; simp; omega) (by rw [List.all_append, HA.out]; simp [VL.out]) HV.out _ (boxes_snoc hown3 rfl)) ?_; rintro e w' ⟨rfl, y6, rfl⟩)
                | (refine step_app_own rfl _ _ 37 rfl 25 (.agg #[.int .i64 0, .int .i64 0, .int .i64 0, .int .i64 0, .int .i64 0, .int .i64 0]) 6 48 Try.underlying37 info_box' rfl (by decide) W2 v5 l.length (boxCells l) _ rfl (by first | with_reducible exact hown | with_reducible exact hown.alloc _) _ 1 1 (boxCells [leftX b px]) rfl rfl ?_ (boxCells_one _) (by have := HN8.out; omega) (by decide) ?_ ?_; (first | (refine cells_new ?_ _ _ _ rfl; simp [size_ext]) | (refine cells_new_ext ?_ _ _ _ rfl; simp [size_ext])); (repeat (first | exact grow_refl _ | refine grow_ext _ ?_ | refine grow_alloc _ ?_ | refine grow_drew ?_)); intro v' x' hown3 hgrow))
            all_goals
              go_wp2_with fail
              go_meet
              exact ⟨rfl, rfl, _, by rw [ext_ext]⟩
          case rest =>
            obtain ⟨rfl, rfl, x8, rfl⟩ := hcut
            go_wp2_with fail
            go_at_call 19; refine (Covers_v [b] _ (leftX b px) _ F5.out (by simp) (by simp [HV.out]) VL.out _ (Boxes.of_own (own_lit _ _ _ _ _ (by simp [size_ext]) (Nat.le_refl _) (show 1 ≤ maxLen by decide) rfl rfl))).mono ?_; rintro e w' ⟨rfl, x9, rfl⟩
            cases more
            · cases is
              · cases n
                · go_wp2
                  go_ret
                  exact Ret.of (by (repeat (first | exact grow_refl _ | exact HB2.out | refine grow_ext _ ?_ | refine grow_alloc _ ?_ | refine grow_drew ?_)))
                · exact absurd (F4.out rfl) (by simp)
              · exact absurd (F3.out rfl) (by simp)
            · go_wp2
              all_goals
                go_ret
                exact Ret.of (by (repeat (first | exact grow_refl _ | exact HB2.out | refine grow_ext _ ?_ | refine grow_alloc _ ?_ | refine grow_drew ?_)))

set_option maxRecDepth 100000 in
set_option maxHeartbeats 1000000 in
theorem lawBoxFills_c (l : List Bx) (v : Value) (b : Bx) (qx qy qz : Int) (hx : 0 ≤ qx ∧ qx ≤ 65535) (hy : 0 ≤ qy ∧ qy ≤ 65535) (hz : 0 ≤ qz ∧ qz ≤ 65535) (w : World) (hl : Boxes w v l) :
    Calls Try.prog 6 #[v, (.agg #[.int .i64 b.lx, .int .i64 b.ly, .int .i64 b.lz, .int .i64 b.hx, .int .i64 b.hy, .int .i64 b.hz]), .int .u16 qx, .int .u16 qy, .int .u16 qz] w (Ret w (.bool true)) := by
  by_cases hlen : l.length ≤ 8
  · cases hall : l.all validB
    · obtain ⟨av, capv, rfl, hcap, hcap2, _⟩ := hl.shape
      have HL := Lib.hid hl
      have hl8 : decide ((8 : Int) < (l.length : Int)) = false := by simp; omega
      clear hl hx hy hz
      go_enter Try.func6, Try.ntmps6
      go_wp2_with fail
      go_at_call 10; refine (awake_c _).mono ?_; rintro e w' ⟨rfl, x, rfl⟩
      go_wp2_with fail
      go_at_call 20; refine (refAll_c l _ _ (HL.out.below (by (repeat (first | exact grow_refl _ | refine grow_ext _ ?_ | refine grow_alloc _ ?_ | refine grow_drew ?_))))).mono ?_; rintro e w' ⟨rfl, x, rfl⟩
      rw [hall]
      go_wp2
      go_ret
      exact Ret.of (by (repeat (first | exact grow_refl _ | refine grow_ext _ ?_ | refine grow_alloc _ ?_ | refine grow_drew ?_)))
    · cases hb : validB b
      · obtain ⟨av, capv, rfl, hcap, hcap2, _⟩ := hl.shape
        have HL := Lib.hid hl
        have hl8 : decide ((8 : Int) < (l.length : Int)) = false := by simp; omega
        clear hl hx hy hz
        go_enter Try.func6, Try.ntmps6
        go_wp2_with fail
        go_at_call 10; refine (awake_c _).mono ?_; rintro e w' ⟨rfl, x, rfl⟩
        go_wp2_with fail
        go_at_call 20; refine (refAll_c l _ _ (HL.out.below (by (repeat (first | exact grow_refl _ | refine grow_ext _ ?_ | refine grow_alloc _ ?_ | refine grow_drew ?_))))).mono ?_; rintro e w' ⟨rfl, x, rfl⟩
        rw [hall]
        go_wp2_with fail
        go_at_call 14; refine (refValid_v b _ hb _).mono ?_; rintro e w' ⟨rfl, x, rfl⟩
        go_wp2
        go_ret
        exact Ret.of (by (repeat (first | exact grow_refl _ | refine grow_ext _ ?_ | refine grow_alloc _ ?_ | refine grow_drew ?_)))
      · exact lawBoxFills_ok l v b qx qy qz hx hy hz w hl hlen hall hb
  · obtain ⟨av, capv, rfl, hcap, hcap2, _⟩ := hl.shape
    have hl8 : decide ((8 : Int) < (l.length : Int)) = true := by simp; omega
    clear hl hx hy hz
    go_enter Try.func6, Try.ntmps6
    go_wp2_with fail
    go_at_call 10; refine (awake_c _).mono ?_; rintro e w' ⟨rfl, x, rfl⟩
    go_wp2
    go_ret
    exact Ret.of (by (repeat (first | exact grow_refl _ | refine grow_ext _ ?_ | refine grow_alloc _ ?_ | refine grow_drew ?_)))

end Go.Proofs.Ytmmhplmomahfhaa

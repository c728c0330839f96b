/- fabric.Check. -/
import Derived.Test.YtolcpkpfndnkbaaFabG
import Derived.Test.YtolcpkpfndnkbaaRefH
import Derived.Test.YtolcpkpfndnkbaaPlainF
namespace Go.Proofs.Ytolcpkpfndnkbaa
open Go.RowKit

def sheetB (f : Fb) (b : Bx) : Bool := validB b && decide (b.lz = 0) && decide (b.hz = 0) && decide (b.hx - b.lx ≤ f.length) && decide (b.hy - b.ly ≤ f.width)
def cutI (n most lap : Int) : Int := if n < most then n - lap else n
def trimX (L W lap : Int) (b : Bx) : Bx := ⟨b.lx, b.ly, b.lz, cutI b.hx L lap, cutI b.hy W lap, b.hz⟩
def leftB (b : Bx) : Bool := decide (b.lx ≤ b.hx) && decide (b.ly ≤ b.hy)
def restL (L W lap : Int) (l : List Bx) : List Bx := (l.map (trimX L W lap)).filter leftB
def slabX (L W : Int) : Bx := ⟨0, 0, 0, L, W, 0⟩
theorem sheetB_iff {f : Fb} {b : Bx} : sheetB f b = true ↔ validB b = true ∧ b.lz = 0 ∧ b.hz = 0 ∧ b.hx - b.lx ≤ f.length ∧ b.hy - b.ly ≤ f.width := by
  unfold sheetB; simp only [Bool.and_eq_true, decide_eq_true_eq]; exact ⟨fun ⟨⟨⟨⟨a, b⟩, c⟩, d⟩, e⟩ => ⟨a, b, c, d, e⟩, fun ⟨a, b, c, d, e⟩ => ⟨⟨⟨⟨a, b⟩, c⟩, d⟩, e⟩⟩

set_option maxHeartbeats 1000000 in
theorem check1_c (f : Fb) (b : Bx) (g : Nat) (w : World) (h3 : w.cell? ⟨g, 3, none⟩ = some (.int .i64 f.length)) (h4 : w.cell? ⟨g, 4, none⟩ = some (.int .i64 f.width)) :
    Calls Try.prog 43 #[(.agg #[.int .i64 b.lx, .int .i64 b.ly, .int .i64 b.lz, .int .i64 b.hx, .int .i64 b.hy, .int .i64 b.hz]), .pointer (some ⟨g, 0, none⟩)] w (Ret w (.bool (!sheetB f b))) := by
  obtain ⟨lx, ly, lz, hx, hy, hz⟩ := b
  cases hv : validB ⟨lx, ly, lz, hx, hy, hz⟩
  · have HR := Lib.hid (show sheetB f ⟨lx, ly, lz, hx, hy, hz⟩ = false by unfold sheetB; rw [hv]; rfl)
    have HV := Lib.hid hv
    clear hv
    dsimp only
    go_enter Try.func43, Try.ntmps43
    go_wp2_with fail
    go_at_call 44; refine (valid_v ⟨lx, ly, lz, hx, hy, hz⟩ _ HV.out _).mono ?_; rintro e w' ⟨rfl, x, rfl⟩
    go_wp2
    go_ret
    rw [HR.out]
    exact Ret.of (by (repeat (first | exact grow_refl _ | refine grow_ext _ ?_ | refine grow_alloc _ ?_ | refine grow_drew ?_)))
  have hb := valid_iff.1 hv
  dsimp only at hb
  have HV := Lib.hid hv
  obtain ⟨r, hr⟩ : ∃ r, sheetB f ⟨lx, ly, lz, hx, hy, hz⟩ = r := ⟨_, rfl⟩
  have hs := hr
  unfold sheetB at hs
  rw [hv] at hs
  dsimp only at hs
  have HR := Lib.hid hr
  clear hv hr
  dsimp only
  by_cases z1 : lz = 0
  · subst z1
    by_cases z2 : hz = 0
    · subst z2
      have hs2 : (decide (hx - lx ≤ f.length) && decide (hy - ly ≤ f.width)) = r := by simpa using hs
      have HS := Lib.hid hs2
      clear hs hs2
      go_enter Try.func43, Try.ntmps43
      go_wp2_with fail
      go_at_call 44; refine (valid_v ⟨lx, ly, 0, hx, hy, 0⟩ _ HV.out _).mono ?_; rintro e w' ⟨rfl, x, rfl⟩
      go_wp2
      all_goals
        go_ret
        rw [HR.out, ← HS.out]
        exact Ret.bool (by first | (simp <;> omega) | (rw [Bool.eq_iff_iff]; simp <;> omega)) (by (repeat (first | exact grow_refl _ | refine grow_ext _ ?_ | refine grow_alloc _ ?_ | refine grow_drew ?_)))
    · have b2 : (hz == 0) = false := by simpa using z2
      have hr0 : r = false := by rw [← hs]; simp [z2]
      subst hr0
      clear hs
      go_enter Try.func43, Try.ntmps43
      go_wp2_with fail
      go_at_call 44; refine (valid_v ⟨lx, ly, 0, hx, hy, hz⟩ _ HV.out _).mono ?_; rintro e w' ⟨rfl, x, rfl⟩
      go_wp2
      all_goals
        go_ret
        rw [HR.out]
        exact Ret.bool (by simp [z2]) (by (repeat (first | exact grow_refl _ | refine grow_ext _ ?_ | refine grow_alloc _ ?_ | refine grow_drew ?_)))
  · have b1 : (lz == 0) = false := by simpa using z1
    have hr0 : r = false := by rw [← hs]; simp [z1]
    subst hr0
    clear hs
    go_enter Try.func43, Try.ntmps43
    go_wp2_with fail
    go_at_call 44; refine (valid_v ⟨lx, ly, lz, hx, hy, hz⟩ _ HV.out _).mono ?_; rintro e w' ⟨rfl, x, rfl⟩
    go_wp2
    all_goals
      go_ret
      rw [HR.out]
      exact Ret.bool (by simp [z1]) (by (repeat (first | exact grow_refl _ | refine grow_ext _ ?_ | refine grow_alloc _ ?_ | refine grow_drew ?_)))
theorem enters_check1 : Enters 43 := enters_of Try.func43 (by decide) (by simp [Try.f43])

def checkR (f : Fb) (L W lap : Int) (l : List Bx) : Bool × Int :=
  if givenI f L W lap = 0 then (if 40 < l.length then (false, 4) else if l.any (fun b => !sheetB f b) = true then (false, 0) else (coversB (restL L W lap l) (slabX L W), 0)) else (false, givenI f L W lap)

theorem rest_snoc {L W lap : Int} {l : List Bx} {k : Nat} (h : k < l.length) : restL L W lap (l.take (k + 1)) = restL L W lap (l.take k) ++ if leftB (trimX L W lap l[k]) = true then [trimX L W lap l[k]] else [] := by
  unfold restL
  rw [List.take_succ_eq_append_getElem h, List.map_append, List.filter_append]
  simp [List.filter_cons]
theorem rest_len (L W lap : Int) (l : List Bx) : (restL L W lap l).length ≤ l.length := by
  unfold restL
  have := List.length_filter_le leftB (l.map (trimX L W lap))
  simpa using this
theorem rest_valid {f : Fb} {L W lap : Int} {l : List Bx} (hl : 0 ≤ lap ∧ lap ≤ 20000) (h : ∀ b ∈ l, sheetB f b = true) : (restL L W lap l).all validB = true := by
  rw [List.all_eq_true]
  intro c hc
  unfold restL at hc
  obtain ⟨hc, hleft⟩ := List.mem_filter.1 hc
  obtain ⟨b, hb, rfl⟩ := List.mem_map.1 hc
  have hv := valid_iff.1 (sheetB_iff.1 (h b hb)).1
  unfold leftB at hleft
  simp only [Bool.and_eq_true, decide_eq_true_eq, trimX, cutI] at hleft
  rw [valid_iff]
  simp only [trimX, cutI]
  obtain ⟨e1, e2⟩ := hleft
  by_cases h1 : b.hx < L <;> by_cases h2 : b.hy < W <;> simp only [h1, h2, if_true, if_false, decide_eq_true_eq] at e1 e2 ⊢ <;> omega
theorem not_and_cases {A B : Prop} [Decidable A] (h : ¬(A ∧ B)) : ¬A ∨ (A ∧ ¬B) := by
  by_cases a : A
  · exact .inr ⟨a, fun b => h ⟨a, b⟩⟩
  · exact .inl a
theorem own_below {w w' : World} {base : Nat} {e : TypeId} {s : Nat} {v : Value} {n : Nat} {xs : List Value} (h : w.ownsRow base e s v n xs) (hb : Below w.heap.size w w') : w'.ownsRow base e s v n xs := by
  obtain ⟨x, rfl⟩ := ext_of hb; exact own_ext h x
theorem slab_valid {L W : Int} (h1 : 1 ≤ L ∧ L ≤ 1048576) (h2 : 1 ≤ W ∧ W ≤ 1048576) : validB (slabX L W) = true := by
  rw [valid_iff]; simp only [slabX]; omega
theorem any_take_none {f : Fb} {l : List Bx} (h : l.any (fun b => !sheetB f b) = false) : ∀ b ∈ l, sheetB f b = true := by
  intro b hb
  have := List.any_eq_false.1 h b hb
  simpa using this

set_option maxRecDepth 100000 in
set_option maxHeartbeats 4000000 in
theorem check_ok (f : Fb) (L W lap : Int) (l : List Bx) (v : Value) (hn : f.name.size ≤ 9223372036854775807) (hg : givenI f L W lap = 0) (hlen : l.length ≤ 40) (ha : l.any (fun b => !sheetB f b) = false) (w : World) (hl : Boxes w v l) :
    Calls Try.prog 17 #[(.agg #[.string f.name, .int .i64 f.main, .int .i64 f.cross, .int .i64 f.length, .int .i64 f.width, .int .i64 f.mass]), .int .i64 L, .int .i64 W, .int .i64 lap, v] w (Ret w (.tuple #[.bool (coversB (restL L W lap l) (slabX L W)), .int .i64 0])) := by
  obtain ⟨av, cap, rfl, hcap, hcap2, _⟩ := hl.shape
  obtain ⟨hv, r1, r2⟩ := given_zero hg
  obtain ⟨q1, q2, q3⟩ := range_iff.1 r1
  obtain ⟨q4, _, _⟩ := range_iff.1 r2
  have HL := Lib.hid hl
  have HG := Lib.hid hg
  have HA := Lib.hid ha
  have HS := Lib.hid (any_take_none ha)
  have HV := Lib.hid (rest_valid (L := L) (W := W) (lap := lap) (by omega) (any_take_none ha))
  have HSL := Lib.hid (slab_valid q1 q4)
  have hd40 : decide ((40 : Int) < (l.length : Int)) = false := by simp; omega
  have HRL := Lib.hid (rest_len L W lap l)
  clear hl hg ha hv r1 r2
  go_enter Try.func17, Try.ntmps17
  go_wp2_with fail
  go_at_call 42; refine (given_c f L W lap hn _).mono ?_; rintro e w' ⟨rfl, x1, rfl⟩
  rw [HG.out]
  go_wp2_with fail
  go_at_call 45
  refine Calls.mono (containsFunc_c 43 enters_check1 #[.pointer (some ⟨w.heap.size, 0, none⟩)] (fun b => !sheetB f b) l _ _ (HL.out.below (by (repeat (first | exact grow_refl _ | refine grow_ext _ ?_ | refine grow_alloc _ ?_ | refine grow_drew ?_)))) (fun b y _ => check1_c f b w.heap.size _ (by simp [go_sem]) (by simp [go_sem]))) ?_
  rintro e w' ⟨rfl, x2, rfl⟩
  rw [HA.out]
  go_wp2_with fail
  go_loopw [34, 14] (fun i v14 wr => ∃ k : Nat, k ≤ l.length ∧ i = .int .i64 k ∧ (∃ x, wr = ext w x) ∧ wr.ownsRow w.heap.size 52 6 v14 (restL L W lap (l.take k)).length (boxCells (restL L W lap (l.take k)))) (fun i _ _ => l.length - (intOf i).toNat)
  case atStart => exact ⟨0, by omega, rfl, ext_of (by (repeat (first | exact grow_refl _ | refine grow_ext _ ?_ | refine grow_alloc _ ?_ | refine grow_drew ?_))), by simpa [restL, boxCells] using World.ownsRow_nil _ _ _ _⟩
  case round =>
    obtain ⟨k, hk, rfl, ⟨x3, rfl⟩, hO⟩ := hrel
    have HO := Lib.hid hO
    clear hO
    by_cases hlt : k < l.length
    · obtain ⟨_, _, he, _, _, hcell⟩ := HL.out.shape
      cases he
      obtain ⟨b0, off, rfl, c0, c1, c2, c3, c4, c5⟩ := hcell k hlt
      clear hcell
      have HRS := Lib.hid (rest_snoc (L := L) (W := W) (lap := lap) hlt)
      have hsb := HS.out l[k] (List.getElem_mem hlt)
      have hrk := rest_len L W lap (l.take k)
      have htl : (l.take k).length ≤ k := List.length_take_le k l
      have hrk2 : (restL L W lap (l.take k)).length ≤ 40 := by omega
      clear hrk htl
      obtain ⟨b, hb⟩ : ∃ b, b = l[k] := ⟨_, rfl⟩
      rw [← hb] at c0 c1 c2 c3 c4 c5 HRS hsb
      clear hb
      have hvb := valid_iff.1 (sheetB_iff.1 hsb).1
      clear hsb
      have HM := Lib.hid hrk2
      clear hrk2
      generalize restL L W lap (l.take k) = M at HO HRS HM
      by_cases hx : b.hx < L <;> by_cases hy : b.hy < W
      all_goals
        by_cases hlf : leftB (trimX L W lap b) = true
        · have h := hlf
          unfold leftB trimX cutI at h
          simp only [hx, hy, if_true, if_false, Bool.and_eq_true, decide_eq_true_eq] at h
          obtain ⟨e1, e2⟩ := h
          have HX := Lib.hid (show restL L W lap (l.take (k + 1)) = M ++ [trimX L W lap b] by rw [HRS.out, if_pos hlf])
          clear hlf
          go_wp2_with (at_builtin; refine app_own rfl _ _ 35 rfl 52 (.agg #[.int .i64 0, .int .i64 0, .int .i64 0, .int .i64 0, .int .i64 0, .int .i64 0]) 6 48 Try.underlying35 info_box rfl (by decide) w _ _ _ _ rfl ((HO.out.alloc _).alloc _) _ 1 1 (boxCells [trimX L W lap b]) rfl rfl (cells_new ?_ _ _ _ ?_) (by simp [Value.oneCell', boxCells]) ?_ (by decide) ?_ ?_; (simp [size_ext]); (simp [boxCells, trimX, cutI, hx, hy]); (have := HM.out; omega); (repeat (first | exact grow_refl _ | refine grow_ext _ ?_ | refine grow_alloc _ ?_ | refine grow_drew ?_)); intro v' x' hown3 hgrow)
          clear hgrow
          go_roundw
          case rel => exact ⟨k + 1, by omega, by go_num, ⟨_, rfl⟩, by rw [HX.out, boxCells_append, List.length_append]; exact hown3⟩
          case measure => simp [intOf]; omega
        · have HX := Lib.hid (show restL L W lap (l.take (k + 1)) = M by rw [HRS.out, if_neg hlf, List.append_nil])
          have h := hlf
          unfold leftB trimX cutI at h
          simp only [hx, hy, if_true, if_false, Bool.and_eq_true, decide_eq_true_eq] at h
          clear hlf
          rcases not_and_cases h with h' | ⟨h1', h2'⟩
          · have d1 := decide_eq_false h'
            clear h
            first
              | (exfalso; omega)
              | (go_wp2_with fail
                 go_roundw
                 case rel => exact ⟨k + 1, by omega, by go_num, ext_of (by (repeat (first | exact grow_refl _ | refine grow_ext _ ?_ | refine grow_alloc _ ?_ | refine grow_drew ?_))), by rw [HX.out]; exact own_below HO.out (by (repeat (first | exact grow_refl _ | refine grow_ext _ ?_ | refine grow_alloc _ ?_ | refine grow_drew ?_)))⟩
                 case measure => simp [intOf]; omega)
          · have d1 := decide_eq_true h1'
            have d2 := decide_eq_false h2'
            clear h
            first
              | (exfalso; omega)
              | (go_wp2_with fail
                 go_roundw
                 case rel => exact ⟨k + 1, by omega, by go_num, ext_of (by (repeat (first | exact grow_refl _ | refine grow_ext _ ?_ | refine grow_alloc _ ?_ | refine grow_drew ?_))), by rw [HX.out]; exact own_below HO.out (by (repeat (first | exact grow_refl _ | refine grow_ext _ ?_ | refine grow_alloc _ ?_ | refine grow_drew ?_)))⟩
                 case measure => simp [intOf]; omega)
    · obtain rfl : k = l.length := by omega
      have HOO := Lib.hid (show (ext w x3).ownsRow w.heap.size 52 6 u14 (restL L W lap l).length (boxCells (restL L W lap l)) by have := HO.out; rwa [List.take_length] at this)
      clear HO
      go_wp2_with fail
      go_at_call 46; refine (Covers_ok (restL L W lap l) _ (slabX L W) _ (Boxes.of_own HOO.out) (by have := HRL.out; omega) HV.out HSL.out).mono ?_; rintro e w' ⟨rfl, x4, rfl⟩
      go_wp2
      go_ret2
      exact Ret.of (by (repeat (first | exact grow_refl _ | refine grow_ext _ ?_ | refine grow_alloc _ ?_ | refine grow_drew ?_)))

end Go.Proofs.Ytolcpkpfndnkbaa

/- fabric.Check as one contract; the example of the chapter on fabrics. -/
import Derived.Test.YtolcpkpfndnkbaaFabH
import Derived.Test.YtolcpkpfndnkbaaEqual
namespace Go.Proofs.Ytolcpkpfndnkbaa
open Go.RowKit

set_option maxRecDepth 100000 in
set_option maxHeartbeats 2000000 in
theorem check_c (f : Fb) (L W lap : Int) (l : List Bx) (v : Value) (hn : f.name.size ≤ 9223372036854775807) (w : World) (hl : Boxes w v l) :
    Calls Try.prog 17 #[(.agg #[.string f.name, .int .i64 f.main, .int .i64 f.cross, .int .i64 f.length, .int .i64 f.width, .int .i64 f.mass]), .int .i64 L, .int .i64 W, .int .i64 lap, v] w (Ret w (.tuple #[.bool (checkR f L W lap l).1, .int .i64 (checkR f L W lap l).2])) := by
  by_cases hg : givenI f L W lap = 0
  · by_cases hlen : 40 < l.length
    · have HR := Lib.hid (show checkR f L W lap l = (false, 4) by unfold checkR; rw [if_pos hg, if_pos hlen])
      obtain ⟨av, cap, rfl, hcap, hcap2, _⟩ := hl.shape
      have HG := Lib.hid hg
      have hd40 : decide ((40 : Int) < (l.length : Int)) = true := by simp; omega
      clear hl hg
      go_enter Try.func17, Try.ntmps17
      go_wp2_with fail
      go_at_call 42; refine (given_c f L W lap hn _).mono ?_; rintro e w' ⟨rfl, x1, rfl⟩
      rw [HG.out]
      go_wp2
      go_ret2
      rw [HR.out]
      exact Ret.of (by (repeat (first | exact grow_refl _ | refine grow_ext _ ?_ | refine grow_alloc _ ?_ | refine grow_drew ?_)))
    · cases ha : l.any fun b => !sheetB f b
      · have : checkR f L W lap l = (coversB (restL L W lap l) (slabX L W), 0) := by unfold checkR; rw [if_pos hg, if_neg hlen, if_neg (by rw [ha]; simp)]
        rw [this]
        exact check_ok f L W lap l v hn hg (by omega) ha w hl
      · have HR := Lib.hid (show checkR f L W lap l = (false, 0) by unfold checkR; rw [if_pos hg, if_neg hlen, if_pos ha])
        obtain ⟨av, cap, rfl, hcap, hcap2, _⟩ := hl.shape
        have HL := Lib.hid hl
        have HG := Lib.hid hg
        have HA := Lib.hid ha
        have hd40 : decide ((40 : Int) < (l.length : Int)) = false := by simp; omega
        clear hl hg ha
        go_enter Try.func17, Try.ntmps17
        go_wp2_with fail
        go_at_call 42; refine (given_c f L W lap hn _).mono ?_; rintro e w' ⟨rfl, x1, rfl⟩
        rw [HG.out]
        go_wp2_with fail
        go_at_call 45
        refine Calls.mono (containsFunc_c 43 enters_check1 #[.pointer (some ⟨w.heap.size, 0, none⟩)] (fun b => !sheetB f b) l _ _ (HL.out.below (by (repeat (first | exact grow_refl _ | refine grow_ext _ ?_ | refine grow_alloc _ ?_ | refine grow_drew ?_)))) (fun b y _ => check1_c f b w.heap.size _ (by simp [go_sem]) (by simp [go_sem]))) ?_
        rintro e w' ⟨rfl, x2, rfl⟩
        rw [HA.out]
        go_wp2
        go_ret2
        rw [HR.out]
        exact Ret.of (by (repeat (first | exact grow_refl _ | refine grow_ext _ ?_ | refine grow_alloc _ ?_ | refine grow_drew ?_)))
  · have HR := Lib.hid (show checkR f L W lap l = (false, givenI f L W lap) by unfold checkR; rw [if_neg hg])
    have HGC := Lib.hid (fun w => given_c f L W lap hn w)
    clear hl
    generalize givenI f L W lap = e0 at *
    have hb : (e0 == 0) = false := by simpa using hg
    go_enter Try.func17, Try.ntmps17
    go_wp2_with fail
    go_at_call 42; refine (HGC.out _).mono ?_; rintro e w' ⟨rfl, x1, rfl⟩
    go_wp2
    go_ret2
    rw [HR.out]
    exact Ret.of (by (repeat (first | exact grow_refl _ | refine grow_ext _ ?_ | refine grow_alloc _ ?_ | refine grow_drew ?_)))

def sampleF : Fb := ⟨⟨#[97, 49, 52, 50]⟩, 14200, 14200, 4800, 2400, 25600⟩
theorem sample_fab : fabsB [sampleF] = true := by decide
theorem sample_given : givenI sampleF 10000 4000 300 = 0 := by decide
theorem sample_row : rowR 10000 4800 300 = ([(0, 4800), (4500, 9300), (9000, 10000)], 0) := by decide
theorem sample_sheets : sheetsR sampleF 10000 4000 300 = (6, 0) := by decide
theorem sample_cover : coverR sampleF 10000 4000 300 = ([⟨0, 0, 0, 4800, 2400, 0⟩, ⟨0, 2100, 0, 4800, 4000, 0⟩, ⟨4500, 0, 0, 9300, 2400, 0⟩, ⟨4500, 2100, 0, 9300, 4000, 0⟩, ⟨9000, 0, 0, 10000, 2400, 0⟩, ⟨9000, 2100, 0, 10000, 4000, 0⟩], 0) := by decide
theorem sample_rest : restL 10000 4000 300 [⟨0, 0, 0, 4800, 2400, 0⟩, ⟨0, 2100, 0, 4800, 4000, 0⟩, ⟨4500, 0, 0, 9300, 2400, 0⟩, ⟨4500, 2100, 0, 9300, 4000, 0⟩, ⟨9000, 0, 0, 10000, 2400, 0⟩, ⟨9000, 2100, 0, 10000, 4000, 0⟩] =
    [⟨0, 0, 0, 4500, 2100, 0⟩, ⟨0, 2100, 0, 4500, 4000, 0⟩, ⟨4500, 0, 0, 9000, 2100, 0⟩, ⟨4500, 2100, 0, 9000, 4000, 0⟩, ⟨9000, 0, 0, 10000, 2100, 0⟩, ⟨9000, 2100, 0, 10000, 4000, 0⟩] := by decide
theorem sample_covers : coversB [⟨0, 0, 0, 4500, 2100, 0⟩, ⟨0, 2100, 0, 4500, 4000, 0⟩, ⟨4500, 0, 0, 9000, 2100, 0⟩, ⟨4500, 2100, 0, 9000, 4000, 0⟩, ⟨9000, 0, 0, 10000, 2100, 0⟩, ⟨9000, 2100, 0, 10000, 4000, 0⟩] (slabX 10000 4000) = true := by
  rw [covers_iff (by decide) (by decide) (by decide)]
  intro P Q R h
  simp only [inB, slabX] at h
  have key : ∀ c : Bx, c ∈ [⟨0, 0, 0, 4500, 2100, 0⟩, ⟨0, 2100, 0, 4500, 4000, 0⟩, ⟨4500, 0, 0, 9000, 2100, 0⟩, ⟨4500, 2100, 0, 9000, 4000, 0⟩, ⟨9000, 0, 0, 10000, 2100, 0⟩, ⟨9000, 2100, 0, 10000, 4000, 0⟩] → inB c P Q R → ∃ a ∈ [⟨0, 0, 0, 4500, 2100, 0⟩, ⟨0, 2100, 0, 4500, 4000, 0⟩, ⟨4500, 0, 0, 9000, 2100, 0⟩, ⟨4500, 2100, 0, 9000, 4000, 0⟩, ⟨9000, 0, 0, 10000, 2100, 0⟩, (⟨9000, 2100, 0, 10000, 4000, 0⟩ : Bx)], inB a P Q R := fun c hc hi => ⟨c, hc, hi⟩
  by_cases p1 : P ≤ 9000
  · by_cases q1 : Q ≤ 4200
    · exact key ⟨0, 0, 0, 4500, 2100, 0⟩ (by simp) (by simp only [inB]; omega)
    · exact key ⟨0, 2100, 0, 4500, 4000, 0⟩ (by simp) (by simp only [inB]; omega)
  · by_cases p2 : P ≤ 18000
    · by_cases q1 : Q ≤ 4200
      · exact key ⟨4500, 0, 0, 9000, 2100, 0⟩ (by simp) (by simp only [inB]; omega)
      · exact key ⟨4500, 2100, 0, 9000, 4000, 0⟩ (by simp) (by simp only [inB]; omega)
    · by_cases q1 : Q ≤ 4200
      · exact key ⟨9000, 0, 0, 10000, 2100, 0⟩ (by simp) (by simp only [inB]; omega)
      · exact key ⟨9000, 2100, 0, 10000, 4000, 0⟩ (by simp) (by simp only [inB]; omega)
theorem sample_check : checkR sampleF 10000 4000 300 [⟨0, 0, 0, 4800, 2400, 0⟩, ⟨0, 2100, 0, 4800, 4000, 0⟩, ⟨4500, 0, 0, 9300, 2400, 0⟩, ⟨4500, 2100, 0, 9300, 4000, 0⟩, ⟨9000, 0, 0, 10000, 2400, 0⟩, ⟨9000, 2100, 0, 10000, 4000, 0⟩] = (true, 0) := by
  unfold checkR
  rw [if_pos sample_given, if_neg (by decide), if_neg (by decide), sample_rest, sample_covers]

set_option maxHeartbeats 400000 in
theorem sheet_c (w : World) : Calls Try.prog 37 #[] w (Ret w (.agg #[.string sampleF.name, .int .i64 sampleF.main, .int .i64 sampleF.cross, .int .i64 sampleF.length, .int .i64 sampleF.width, .int .i64 sampleF.mass])) := by
  go_enter Try.func37, Try.ntmps37
  go_wp2
  refine bodyPost_ret (v := (.agg #[.string sampleF.name, .int .i64 sampleF.main, .int .i64 sampleF.cross, .int .i64 sampleF.length, .int .i64 sampleF.width, .int .i64 sampleF.mass])) (by simp [results, Try.results37, go_sem, sampleF]) rfl ?_
  exact Ret.of (by (repeat (first | exact grow_refl _ | refine grow_ext _ ?_ | refine grow_alloc _ ?_ | refine grow_drew ?_)))

set_option maxRecDepth 100000 in
set_option maxHeartbeats 2000000 in
theorem fabAwake_c (w : World) : Calls Try.prog 11 #[] w (Ret w (.bool true)) := by
  have R1 := Lib.hid (fun w => Row_c 10000 4800 300 w)
  have R2 := Lib.hid (fun w => sheets_c sampleF 10000 4000 300 (by decide) w)
  have R3 := Lib.hid (fun w => cover_c sampleF 10000 4000 300 (by decide) w)
  rw [sample_row] at R1
  rw [sample_sheets] at R2
  rw [sample_cover] at R3
  go_enter Try.func11, Try.ntmps11
  go_wp2_with fail
  go_at_call 12; refine Calls.mono (R1.out _) ?_; rintro e w' ⟨v1, rfl, hown1, x1, rfl⟩
  have P1 := Lib.hid (Pairs.of_own hown1)
  clear hown1
  go_wp2_with fail
  go_at_call 37; refine (sheet_c _).mono ?_; rintro e w' ⟨rfl, x2, rfl⟩
  go_wp2_with fail
  go_at_call 20; refine (R2.out _).mono ?_; rintro e w' ⟨rfl, x3, rfl⟩
  go_wp2_with fail
  go_at_call 37; refine (sheet_c _).mono ?_; rintro e w' ⟨rfl, x4, rfl⟩
  go_wp2_with fail
  go_at_call 22; refine Calls.mono (R3.out _) ?_; rintro e w' ⟨v5, rfl, hown5, x5, rfl⟩
  have P5 := Lib.hid (Boxes.of_own hown5)
  obtain ⟨a5, cap5, rfl, _, _, _⟩ := own_shape hown5
  clear hown5
  go_wp2_with fail
  go_at_call 37; refine (sheet_c _).mono ?_; rintro e w' ⟨rfl, x6, rfl⟩
  go_wp2_with fail
  go_at_call 17; refine Calls.mono (check_c sampleF 10000 4000 300 [⟨0, 0, 0, 4800, 2400, 0⟩, ⟨0, 2100, 0, 4800, 4000, 0⟩, ⟨4500, 0, 0, 9300, 2400, 0⟩, ⟨4500, 2100, 0, 9300, 4000, 0⟩, ⟨9000, 0, 0, 10000, 2400, 0⟩, ⟨9000, 2100, 0, 10000, 4000, 0⟩] _ (by decide) _ (P5.out.below (by (repeat (first | exact grow_refl _ | refine grow_ext _ ?_ | refine grow_alloc _ ?_ | refine grow_drew ?_))))) ?_; rintro e w' ⟨rfl, x7, rfl⟩
  rw [sample_check]
  go_wp2_with fail
  go_at_call 15; refine Calls.mono (equalSpans_c [(0, 4800), (4500, 9300), (9000, 10000)] [(0, 4800), (4500, 9300), (9000, 10000)] _ _ _ (P1.out.below (by (repeat (first | exact grow_refl _ | refine grow_ext _ ?_ | refine grow_alloc _ ?_ | refine grow_drew ?_)))) (Pairs.of_own (own_lit _ _ _ _ _ (by simp [size_ext]) (Nat.le_refl _) (by decide) rfl rfl))) ?_; rintro e w' ⟨rfl, x8, rfl⟩
  rw [show decide (([(0, 4800), (4500, 9300), (9000, 10000)] : List (Int × Int)) = [(0, 4800), (4500, 9300), (9000, 10000)]) = true by decide]
  go_wp2
  go_ret
  exact Ret.of (by (repeat (first | exact grow_refl _ | refine grow_ext _ ?_ | refine grow_alloc _ ?_ | refine grow_drew ?_)))

end Go.Proofs.Ytolcpkpfndnkbaa

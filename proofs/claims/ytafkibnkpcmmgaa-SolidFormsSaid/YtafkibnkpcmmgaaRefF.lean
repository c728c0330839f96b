/- The reference's parts of a box. -/
import Derived.Test.YtafkibnkpcmmgaaRefE
import Derived.Test.YtafkibnkpcmmgaaAwake0
import Derived.Test.YtafkibnkpcmmgaaTail
import Derived.Deep.RegionHeld3
namespace Go.Proofs.Ytafkibnkpcmmgaa
open Go.RowKit

def rowY (P2 : List (Int × Int)) (x y : Int × Int) : List Bx := P2.map (cellX x y)
def rowX (P1 P2 : List (Int × Int)) (x : Int × Int) : List Bx := P1.flatMap (rowY P2 x)
def rowA (P0 P1 P2 : List (Int × Int)) : List Bx := P0.flatMap (rowX P1 P2)

theorem flat_take {α β : Type} (f : α → List β) (P : List α) (i : Nat) (h : i < P.length) : (P.take (i + 1)).flatMap f = (P.take i).flatMap f ++ f P[i] := by
  rw [List.take_succ_eq_append_getElem h, List.flatMap_append]; simp
theorem flat_len {α β : Type} (f : α → List β) (c : Nat) (P : List α) (h : ∀ x, (f x).length ≤ c) : (P.flatMap f).length ≤ P.length * c := by
  induction P with
  | nil => simp
  | cons a P ih => have := h a; simp only [List.flatMap_cons, List.length_append, List.length_cons, Nat.succ_mul]; omega
theorem rowY_len (P2 : List (Int × Int)) (h : P2.length ≤ 2002) (x y : Int × Int) : (rowY P2 x y).length ≤ 2002 := by unfold rowY; simpa using h
theorem rowX_len (P1 P2 : List (Int × Int)) (h1 : P1.length ≤ 2002) (h2 : P2.length ≤ 2002) (x : Int × Int) : (rowX P1 P2 x).length ≤ 4008004 := by
  unfold rowX
  have := flat_len (rowY P2 x) 2002 P1 (rowY_len P2 h2 x)
  have := Nat.mul_le_mul_right 2002 h1
  omega
theorem row_len (P0 P1 P2 : List (Int × Int)) (h0 : P0.length ≤ 2002) (h1 : P1.length ≤ 2002) (h2 : P2.length ≤ 2002) (i k m : Nat) (x y : Int × Int) :
    ((P0.take i).flatMap (rowX P1 P2) ++ (P1.take k).flatMap (rowY P2 x) ++ (P2.take m).map (cellX x y)).length ≤ 10000000000 := by
  have a0 := List.length_take_le i P0
  have a1 := List.length_take_le k P1
  have a2 := List.length_take_le m P2
  have l0 := List.length_take_le' i P0
  have l1 := List.length_take_le' k P1
  have l2 := List.length_take_le' m P2
  have b0 := flat_len (rowX P1 P2) 4008004 (P0.take i) (rowX_len P1 P2 h1 h2)
  have b1 := flat_len (rowY P2 x) 2002 (P1.take k) (rowY_len P2 h2 x)
  have c0 := Nat.mul_le_mul_right 4008004 (show (P0.take i).length ≤ 2002 by omega)
  have c1 := Nat.mul_le_mul_right 2002 (show (P1.take k).length ≤ 2002 by omega)
  simp only [List.length_append, List.length_map]
  omega
theorem boxCells_append (a b : List Bx) : boxCells (a ++ b) = boxCells a ++ boxCells b := by unfold boxCells; rw [List.flatMap_append]
theorem info_box : (Try.prog.info? 28).map (fun i => (i.zero, i.size, i.bytes)) = some (some (.agg #[.int .i64 0, .int .i64 0, .int .i64 0, .int .i64 0, .int .i64 0, .int .i64 0]), 6, 48) := by kernel_rfl

theorem own_ints {w : World} {base : Nat} {v : Value} {C : List Int} (h : w.ownsRow base 3 1 v C.length (C.map (Value.int .i64))) (h0 : 0 < C.length) :
    ∃ g cap, v = .slice (some ⟨g, 0, none⟩) C.length cap ∧ C.length ≤ cap ∧ cap ≤ 9223372036854775807 := by
  obtain ⟨a, cap, rfl, h1, h2, h3⟩ := own_shape h
  obtain ⟨g, rfl, _⟩ := h3 h0
  exact ⟨g, cap, rfl, h1, h2⟩
theorem own_at {w : World} {base g cap : Nat} {C : List Int} (h : w.ownsRow base 3 1 (.slice (some ⟨g, 0, none⟩) C.length cap) C.length (C.map (Value.int .i64))) (i : Nat) (hi : i < C.length) :
    w.cell? ⟨g, i, none⟩ = some (.int .i64 C[i]) := by
  obtain ⟨a, cap', he, h1, h2, h3⟩ := own_shape h
  cases he
  obtain ⟨g', e, _, hc⟩ := h3 (by omega)
  cases e
  have := hc i (by omega)
  rwa [List.getElem?_map, List.getElem?_eq_getElem hi, Option.map_some] at this

/-- A box's parts along an axis, by its cuts. -/
def Axis (P : List (Int × Int)) (C : List Int) : Prop := 1 ≤ C.length ∧ C.length ≤ 2002 ∧ P.length = max 1 (C.length - 1) ∧
  ∀ i n (h : i < P.length) (hn : n = min (i + 1) (C.length - 1)) (h1 : i < C.length) (h2 : n < C.length), P[i] = (C[i], C[n])
theorem axis_of {l : List Bx} {b : Bx} {k : Int} (hb : b.lo k ≤ b.hi k) (hl : l.length ≤ 1000) : Axis (partsL l b k) (cutsB l b k) := by
  obtain ⟨h1, h2⟩ := partsL_cuts (l := l) hb
  obtain ⟨h0, _⟩ := cutsB_facts (l := l) hb
  have h3 := cutsB_length l b k
  refine ⟨h0, by omega, h1, ?_⟩
  intro i n h hn hi hn2
  subst hn
  exact h2 i h hi hn2

set_option maxRecDepth 100000 in
set_option maxHeartbeats 8000000 in
theorem refParts_c (l : List Bx) (v : Value) (b : Bx) (w : World) (hl : Boxes w v l) (hlen : l.length ≤ 1000) (hb : Ord b) :
    Calls Try.prog 69 #[v, (.agg #[.int .i64 b.lx, .int .i64 b.ly, .int .i64 b.lz, .int .i64 b.hx, .int .i64 b.hy, .int .i64 b.hz])] w (RetOwn w 28 6 (rowA (partsL l b 0) (partsL l b 1) (partsL l b 2)).length (boxCells (rowA (partsL l b 0) (partsL l b 1) (partsL l b 2)))) := by
  obtain ⟨b0, b1, b2⟩ := hb
  have ax0 := axis_of (l := l) (b := b) (k := 0) b0 hlen
  have ax1 := axis_of (l := l) (b := b) (k := 1) b1 hlen
  have ax2 := axis_of (l := l) (b := b) (k := 2) b2 hlen
  have HC0 := Lib.hid (fun (x : World) (h : Below w.heap.size w x) => refCuts_c l v b 0 (by omega) x (hl.below h) hlen b0)
  have HC1 := Lib.hid (fun (x : World) (h : Below w.heap.size w x) => refCuts_c l v b 1 (by omega) x (hl.below h) hlen b1)
  have HC2 := Lib.hid (fun (x : World) (h : Below w.heap.size w x) => refCuts_c l v b 2 (by omega) x (hl.below h) hlen b2)
  generalize cutsB l b 0 = C0 at ax0 HC0
  generalize cutsB l b 1 = C1 at ax1 HC1
  generalize cutsB l b 2 = C2 at ax2 HC2
  generalize partsL l b 0 = P0 at ax0
  generalize partsL l b 1 = P1 at ax1
  generalize partsL l b 2 = P2 at ax2
  obtain ⟨m0, n0, l0, g0⟩ := ax0
  obtain ⟨m1, n1, l1, g1⟩ := ax1
  obtain ⟨m2, n2, l2, g2⟩ := ax2
  have G0 := Lib.hid g0
  have G1 := Lib.hid g1
  have G2 := Lib.hid g2
  have HR := Lib.hid (row_len P0 P1 P2 (by omega) (by omega) (by omega))
  clear g0 g1 g2 b0 b1 b2 hl hlen
  go_enter Try.func69, Try.ntmps69
  go_wp2_with fail
  go_region_held3 (fun w' => w'.cell? ⟨w.heap.size, 0, none⟩ = some (.int .i64 b.lx) ∧ w'.cell? ⟨w.heap.size, 1, none⟩ = some (.int .i64 b.ly) ∧ w'.cell? ⟨w.heap.size, 2, none⟩ = some (.int .i64 b.lz) ∧ w'.cell? ⟨w.heap.size, 3, none⟩ = some (.int .i64 b.hx) ∧ w'.cell? ⟨w.heap.size, 4, none⟩ = some (.int .i64 b.hy) ∧ w'.cell? ⟨w.heap.size, 5, none⟩ = some (.int .i64 b.hz)) (simp [go_sem, *])
    (first
      | (go_at_call_of 99 (Value.int IntKind.i64 0); refine Calls.mono (HC0.out _ ?_) ?_; (repeat (first | exact grow_refl _ | refine grow_ext _ ?_ | refine grow_alloc _ ?_ | refine grow_drew ?_)); rintro e w' ⟨v0, rfl, hown0, y0, rfl⟩)
      | (go_at_call_of 99 (Value.int IntKind.i64 1); refine Calls.mono (HC1.out _ ?_) ?_; (repeat (first | exact grow_refl _ | refine grow_ext _ ?_ | refine grow_alloc _ ?_ | refine grow_drew ?_)); rintro e w' ⟨v1, rfl, hown1, y1, rfl⟩)
      | (go_at_call_of 99 (Value.int IntKind.i64 2); refine Calls.mono (HC2.out _ ?_) ?_; (repeat (first | exact grow_refl _ | refine grow_ext _ ?_ | refine grow_alloc _ ?_ | refine grow_drew ?_)); rintro e w' ⟨v2, rfl, hown2, y2, rfl⟩))
  have A0 := own_mono (own_ext (own_ext hown0 y1) y2) (show w.heap.size ≤ _ by simp [size_ext] <;> omega)
  have A1 := own_mono (own_ext hown1 y2) (show w.heap.size ≤ _ by simp [size_ext] <;> omega)
  have A2 := own_mono hown2 (show w.heap.size ≤ _ by simp [size_ext] <;> omega)
  clear hown0 hown1 hown2
  simp only [ext_drew] at A0 A1 A2
  obtain ⟨g0, cap0, rfl, s0, t0⟩ := own_ints A0 (by omega)
  obtain ⟨g1, cap1, rfl, s1, t1⟩ := own_ints A1 (by omega)
  obtain ⟨g2, cap2, rfl, s2, t2⟩ := own_ints A2 (by omega)
  go_wp2_with fail
  go_loopw [9, 8] (fun i v8 wr => ∃ j : Nat, j ≤ P0.length ∧ i = .int .i64 j ∧ (∃ x, wr = ext w x) ∧ wr.ownsRow w.heap.size 3 1 (.slice (some ⟨g0, 0, none⟩) C0.length cap0) C0.length (C0.map (Value.int .i64)) ∧ wr.ownsRow w.heap.size 3 1 (.slice (some ⟨g1, 0, none⟩) C1.length cap1) C1.length (C1.map (Value.int .i64)) ∧ wr.ownsRow w.heap.size 3 1 (.slice (some ⟨g2, 0, none⟩) C2.length cap2) C2.length (C2.map (Value.int .i64)) ∧ wr.ownsRow w.heap.size 28 6 v8 ((P0.take j).flatMap (rowX P1 P2)).length (boxCells ((P0.take j).flatMap (rowX P1 P2)))) (fun i _ _ => P0.length - (intOf i).toNat)
  case atStart => exact ⟨0, by omega, rfl, ext_of (by (repeat (first | exact grow_refl _ | refine grow_ext _ ?_ | refine grow_alloc _ ?_ | refine grow_drew ?_))), A0, A1, A2, by simp [boxCells]; exact World.ownsRow_nil _ _ _ _⟩
  case round =>
    clear A0 A1 A2
    obtain ⟨j, hj, rfl, ⟨x1, rfl⟩, A0, A1, A2, hO⟩ := hrel
    by_cases hlt0 : j < P0.length
    · have T0 : decide ((j : Int) < max 1 ((C0.length : Int) - 1)) = true := by simp; omega
      have HT0 := Lib.hid (flat_take (rowX P1 P2) P0 j hlt0)
      go_wp2_with fail
      go_loopw [10, 8] (fun i v8 wr => ∃ k : Nat, k ≤ P1.length ∧ i = .int .i64 k ∧ (∃ x, wr = ext w x) ∧ wr.ownsRow w.heap.size 3 1 (.slice (some ⟨g0, 0, none⟩) C0.length cap0) C0.length (C0.map (Value.int .i64)) ∧ wr.ownsRow w.heap.size 3 1 (.slice (some ⟨g1, 0, none⟩) C1.length cap1) C1.length (C1.map (Value.int .i64)) ∧ wr.ownsRow w.heap.size 3 1 (.slice (some ⟨g2, 0, none⟩) C2.length cap2) C2.length (C2.map (Value.int .i64)) ∧ wr.ownsRow w.heap.size 28 6 v8 ((P0.take j).flatMap (rowX P1 P2) ++ (P1.take k).flatMap (rowY P2 P0[j])).length (boxCells ((P0.take j).flatMap (rowX P1 P2) ++ (P1.take k).flatMap (rowY P2 P0[j])))) (fun i _ _ => P1.length - (intOf i).toNat)
      case atStart => exact ⟨0, by omega, rfl, ⟨_, rfl⟩, A0, A1, A2, by simpa using hO⟩
      case round =>
        clear A0 A1 A2 hO
        obtain ⟨k, hk, rfl, ⟨x2, rfl⟩, A0, A1, A2, hO⟩ := hrel
        by_cases hlt1 : k < P1.length
        · have T1 : decide ((k : Int) < max 1 ((C1.length : Int) - 1)) = true := by simp; omega
          have HT1 := Lib.hid (flat_take (rowY P2 P0[j]) P1 k hlt1)
          go_wp2_with fail
          go_loopw [11, 8] (fun i v8 wr => ∃ m : Nat, m ≤ P2.length ∧ i = .int .i64 m ∧ (∃ x, wr = ext w x) ∧ wr.ownsRow w.heap.size 3 1 (.slice (some ⟨g0, 0, none⟩) C0.length cap0) C0.length (C0.map (Value.int .i64)) ∧ wr.ownsRow w.heap.size 3 1 (.slice (some ⟨g1, 0, none⟩) C1.length cap1) C1.length (C1.map (Value.int .i64)) ∧ wr.ownsRow w.heap.size 3 1 (.slice (some ⟨g2, 0, none⟩) C2.length cap2) C2.length (C2.map (Value.int .i64)) ∧ wr.ownsRow w.heap.size 28 6 v8 ((P0.take j).flatMap (rowX P1 P2) ++ (P1.take k).flatMap (rowY P2 P0[j]) ++ (P2.take m).map (cellX P0[j] P1[k])).length (boxCells ((P0.take j).flatMap (rowX P1 P2) ++ (P1.take k).flatMap (rowY P2 P0[j]) ++ (P2.take m).map (cellX P0[j] P1[k])))) (fun i _ _ => P2.length - (intOf i).toNat)
          case atStart => exact ⟨0, by omega, rfl, ⟨_, rfl⟩, A0, A1, A2, by simpa using hO⟩
          case round =>
            clear A0 A1 A2 hO
            obtain ⟨m, hm, rfl, ⟨x3, rfl⟩, A0, A1, A2, hO⟩ := hrel
            by_cases hlt2 : m < P2.length
            · have T2 : decide ((m : Int) < max 1 ((C2.length : Int) - 1)) = true := by simp; omega
              have HB := HR.out j k m P0[j] P1[k]
              have HT2 := Lib.hid (show (P0.take j).flatMap (rowX P1 P2) ++ (P1.take k).flatMap (rowY P2 P0[j]) ++ (P2.take (m + 1)).map (cellX P0[j] P1[k]) = ((P0.take j).flatMap (rowX P1 P2) ++ (P1.take k).flatMap (rowY P2 P0[j]) ++ (P2.take m).map (cellX P0[j] P1[k])) ++ [cellX P0[j] P1[k] P2[m]] by rw [List.take_succ_eq_append_getElem hlt2, List.map_append]; simp)
              generalize (P0.take j).flatMap (rowX P1 P2) ++ (P1.take k).flatMap (rowY P2 P0[j]) ++ (P2.take m).map (cellX P0[j] P1[k]) = L at hO HB HT2
              have h0 : j < C0.length := by omega
              obtain ⟨q0, hq0⟩ : ∃ q, q = min (j + 1) (C0.length - 1) := ⟨_, rfl⟩
              have k0 : q0 < C0.length := by omega
              have E0 := Lib.hid (G0.out j q0 hlt0 hq0 h0 k0)
              have c0 := own_at A0 j h0
              have d0 := own_at A0 q0 k0
              have pa0 : IntKind.i64.wrap ((j : Int) + 1) = (j : Int) + 1 := IntWalk.i64_in _ (by omega)
              have pb0 : IntKind.i64.wrap ((C0.length : Int) - 1) = (C0.length : Int) - 1 := IntWalk.i64_in _ (by omega)
              have pc0 : min ((j : Int) + 1) ((C0.length : Int) - 1) = (q0 : Int) := by omega
              have pd0 : (j : Int) < (C0.length : Int) := by omega
              have pe0 : (q0 : Int) < (C0.length : Int) := by omega
              have pf0 : (0 : Int) ≤ (j : Int) := by omega
              have pg0 : (0 : Int) ≤ (q0 : Int) := by omega
              have h1 : k < C1.length := by omega
              obtain ⟨q1, hq1⟩ : ∃ q, q = min (k + 1) (C1.length - 1) := ⟨_, rfl⟩
              have k1 : q1 < C1.length := by omega
              have E1 := Lib.hid (G1.out k q1 hlt1 hq1 h1 k1)
              have c1 := own_at A1 k h1
              have d1 := own_at A1 q1 k1
              have pa1 : IntKind.i64.wrap ((k : Int) + 1) = (k : Int) + 1 := IntWalk.i64_in _ (by omega)
              have pb1 : IntKind.i64.wrap ((C1.length : Int) - 1) = (C1.length : Int) - 1 := IntWalk.i64_in _ (by omega)
              have pc1 : min ((k : Int) + 1) ((C1.length : Int) - 1) = (q1 : Int) := by omega
              have pd1 : (k : Int) < (C1.length : Int) := by omega
              have pe1 : (q1 : Int) < (C1.length : Int) := by omega
              have pf1 : (0 : Int) ≤ (k : Int) := by omega
              have pg1 : (0 : Int) ≤ (q1 : Int) := by omega
              have h2 : m < C2.length := by omega
              obtain ⟨q2, hq2⟩ : ∃ q, q = min (m + 1) (C2.length - 1) := ⟨_, rfl⟩
              have k2 : q2 < C2.length := by omega
              have E2 := Lib.hid (G2.out m q2 hlt2 hq2 h2 k2)
              have c2 := own_at A2 m h2
              have d2 := own_at A2 q2 k2
              have pa2 : IntKind.i64.wrap ((m : Int) + 1) = (m : Int) + 1 := IntWalk.i64_in _ (by omega)
              have pb2 : IntKind.i64.wrap ((C2.length : Int) - 1) = (C2.length : Int) - 1 := IntWalk.i64_in _ (by omega)
              have pc2 : min ((m : Int) + 1) ((C2.length : Int) - 1) = (q2 : Int) := by omega
              have pd2 : (m : Int) < (C2.length : Int) := by omega
              have pe2 : (q2 : Int) < (C2.length : Int) := by omega
              have pf2 : (0 : Int) ≤ (m : Int) := by omega
              have pg2 : (0 : Int) ≤ (q2 : Int) := by omega
              have HN := Lib.hid (show boxCells [cellX P0[j] P1[k] P2[m]] = [.int .i64 (C0[j]'h0), .int .i64 (C1[k]'h1), .int .i64 (C2[m]'h2), .int .i64 (C0[q0]'k0), .int .i64 (C1[q1]'k1), .int .i64 (C2[q2]'k2)] by rw [E0.out, E1.out, E2.out]; rfl)
              have HA0 := Lib.hid A0
              have HA1 := Lib.hid A1
              have HA2 := Lib.hid A2
              have HO := Lib.hid hO
              clear A0 A1 A2 hO hq0 hq1 hq2
              go_wp2_with fail
              refine wp_region_app 43 (by kernel_rfl) (by kernel_rfl) rfl rfl (fun _ _ _ _ h => h) ?_; simp only [List.take_succ_cons, List.take_zero, List.drop_succ_cons, List.drop_zero]
              repeat (go_big_quiet_step (fail))
              refine wpQuiet_nil ?_; rintro _ ⟨xq, rfl⟩
              clear pa0 pa1 pa2 pb0 pb1 pb2 pc0 pc1 pc2 pe0 pe1 pe2 pf0 pf1 pf2 pg0 pg1 pg2
              go_wp2_with (at_builtin; refine app_own rfl _ _ 22 rfl 28 (.agg #[.int .i64 0, .int .i64 0, .int .i64 0, .int .i64 0, .int .i64 0, .int .i64 0]) 6 48 Try.underlying22 info_box rfl (by decide) w _ _ _ _ rfl ((own_ext HO.out xq).alloc _) _ 1 1 [.int .i64 (C0[j]'h0), .int .i64 (C1[k]'h1), .int .i64 (C2[m]'h2), .int .i64 (C0[q0]'k0), .int .i64 (C1[q1]'k1), .int .i64 (C2[q2]'k2)] rfl rfl (cells_new ?_ _ _ _ rfl) (by simp [Value.oneCell']) ?_ (by decide) ?_ ?_; (simp [size_ext]); omega; (repeat (first | exact grow_refl _ | refine grow_ext _ ?_ | refine grow_alloc _ ?_ | refine grow_drew ?_)); intro v' x' hown3 hgrow)
              have B0 := ((own_ext HA0.out xq).alloc _).kept hgrow (own_ne HA0.out HO.out (by decide))
              have B1 := ((own_ext HA1.out xq).alloc _).kept hgrow (own_ne HA1.out HO.out (by decide))
              have B2 := ((own_ext HA2.out xq).alloc _).kept hgrow (own_ne HA2.out HO.out (by decide))
              clear hgrow c0 c1 c2 d0 d1 d2
              go_roundw
              case rel => exact ⟨m + 1, by omega, by go_num, ⟨_, rfl⟩, B0, B1, B2, by rw [HT2.out, boxCells_append, HN.out, List.length_append]; exact hown3⟩
              case measure => simp [intOf]; omega
            · obtain rfl : m = P2.length := by omega
              have T2 : decide ((P2.length : Int) < max 1 ((C2.length : Int) - 1)) = false := by simp; omega
              rw [List.take_length] at hO
              have HOO := Lib.hid hO
              have HA0 := Lib.hid A0
              have HA1 := Lib.hid A1
              have HA2 := Lib.hid A2
              clear A0 A1 A2 hO
              go_wp2
              go_roundw
              case rel => exact ⟨k + 1, by omega, by go_num, ⟨_, rfl⟩, HA0.out, HA1.out, HA2.out, by rw [HT1.out, ← List.append_assoc]; exact HOO.out⟩
              case measure => simp [intOf]; omega
        · obtain rfl : k = P1.length := by omega
          have T1 : decide ((P1.length : Int) < max 1 ((C1.length : Int) - 1)) = false := by simp; omega
          rw [List.take_length] at hO
          have HOO := Lib.hid hO
          have HA0 := Lib.hid A0
          have HA1 := Lib.hid A1
          have HA2 := Lib.hid A2
          clear A0 A1 A2 hO
          go_wp2
          go_roundw
          case rel => exact ⟨j + 1, by omega, by go_num, ⟨_, rfl⟩, HA0.out, HA1.out, HA2.out, by rw [HT0.out]; exact HOO.out⟩
          case measure => simp [intOf]; omega
    · obtain rfl : j = P0.length := by omega
      have T0 : decide ((P0.length : Int) < max 1 ((C0.length : Int) - 1)) = false := by simp; omega
      rw [List.take_length] at hO
      have HOO := Lib.hid hO
      clear A0 A1 A2 hO
      go_wp2
      go_ret
      exact ⟨_, rfl, HOO.out, ⟨_, rfl⟩⟩
end Go.Proofs.Ytafkibnkpcmmgaa

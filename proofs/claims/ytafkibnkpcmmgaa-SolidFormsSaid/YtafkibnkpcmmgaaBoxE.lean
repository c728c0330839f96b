/- Slices of boxes; ContainsFunc over them. -/
import Derived.Test.YtafkibnkpcmmgaaBoxD
namespace Go.Proofs.Ytafkibnkpcmmgaa
open Go.RowKit

/-- The cells of a box from an address on. -/
def BoxAt (w : World) (b off : Nat) (x : Bx) : Prop :=
  w.cell? ⟨b, off, none⟩ = some (.int .i64 x.lx) ∧ w.cell? ⟨b, off + 1, none⟩ = some (.int .i64 x.ly) ∧ w.cell? ⟨b, off + 2, none⟩ = some (.int .i64 x.lz) ∧
  w.cell? ⟨b, off + 3, none⟩ = some (.int .i64 x.hx) ∧ w.cell? ⟨b, off + 4, none⟩ = some (.int .i64 x.hy) ∧ w.cell? ⟨b, off + 5, none⟩ = some (.int .i64 x.hz)

/-- A slice value that reads as a list of boxes. -/
def Boxes (w : World) (v : Value) (l : List Bx) : Prop :=
  ∃ a cap, v = .slice a l.length cap ∧ l.length ≤ cap ∧ cap ≤ 9223372036854775807 ∧ ∀ i (h : i < l.length), ∃ b off, a = some ⟨b, off, none⟩ ∧ BoxAt w b (off + i * 6) l[i]

theorem cell_ext_some {w : World} {a : Addr} {v : Value} (h : w.cell? a = some v) (x : World) : (ext w x).cell? a = some v := by
  rw [cell_ext, h, Option.some_or]
theorem BoxAt.ext {w : World} {b off : Nat} {x : Bx} (h : BoxAt w b off x) (y : World) : BoxAt (ext w y) b off x :=
  ⟨cell_ext_some h.1 y, cell_ext_some h.2.1 y, cell_ext_some h.2.2.1 y, cell_ext_some h.2.2.2.1 y, cell_ext_some h.2.2.2.2.1 y, cell_ext_some h.2.2.2.2.2 y⟩
theorem Boxes.ext {w : World} {v : Value} {l : List Bx} (h : Boxes w v l) (y : World) : Boxes (ext w y) v l := by
  obtain ⟨a, cap, h1, h2, h3, h4⟩ := h
  exact ⟨a, cap, h1, h2, h3, fun i hi => let ⟨b, off, e, hb⟩ := h4 i hi; ⟨b, off, e, hb.ext y⟩⟩

/-- A call of function number F enters it. -/
def Enters (F : Nat) : Prop := ∀ (a : Array Value) (w : World), (callFunc F a).run Try.prog w = .ok (.enter F a) w
theorem enters_of {F : Nat} {fn : Func} (hf : Try.prog.funcs[F]? = some fn) (hn : ¬ fn.name = "runtime.NumGoroutine") (hb : ¬ fn.body = none) : Enters F := by
  intro a w
  unfold callFunc
  simp [go_sem, hf, hn, hb]

set_option maxRecDepth 100000 in
set_option maxHeartbeats 400000 in
theorem indexFunc_c (F : Nat) (hE : Enters F) (caps : Array Value) (p : Bx → Bool) (l : List Bx) (v : Value) (w : World) (hl : Boxes w v l)
    (hf : ∀ b x, b ∈ l → Calls Try.prog F (#[(.agg #[.int .i64 b.lx, .int .i64 b.ly, .int .i64 b.lz, .int .i64 b.hx, .int .i64 b.hy, .int .i64 b.hz])] ++ caps) (ext w x) (Ret (ext w x) (.bool (p b)))) :
    Calls Try.prog 74 #[v, .func (.func F) #[] caps] w (Ret w (.int .i64 (((l.findIdx? p).map (fun i : Nat => (i : Int))).getD (-1)))) := by
  obtain ⟨a, cap, rfl, h2, h3, h4⟩ := hl
  by_cases hnil : l = []
  · subst hnil
    clear hf hE h4
    go_enter Try.func74, Try.ntmps74
    go_wp2
    refine wp_loop_rounds 1 ?_
    rw [rounds_succ]
    go_wp2
    go_ret
    exact Ret.of (by (repeat (first | exact grow_refl _ | refine grow_ext _ ?_ | refine grow_alloc _ ?_ | refine grow_drew ?_)))
  · have HF := Lib.hid hf
    clear hf
    clear hnil
    have hn : l.length ≤ 9223372036854775807 := by omega
    go_enter Try.func74, Try.ntmps74
    go_wp2
    go_loopw [8, 5] (fun i j wr => ∃ k : Nat, k ≤ l.length ∧ i = .int .i64 k ∧ (∃ x, wr = ext w x) ∧ ∀ j (h : j < k) (h' : j < l.length), p l[j] = false) (fun i j _ => l.length - (intOf i).toNat)
    case atStart => exact ⟨0, by omega, rfl, ext_of (Below.refl _ _), fun j h => by omega⟩
    case round =>
      obtain ⟨k, hk, rfl, ⟨x, rfl⟩, hno⟩ := hrel
      have HNO := Lib.hid hno
      clear hno
      by_cases hlt : k < l.length
      · have hbox := h4 k hlt
        have hcall := HF.out l[k] x (List.getElem_mem hlt)
        obtain ⟨b, off, rfl, c0, c1, c2, c3, c4, c5⟩ := hbox
        have H4 := Lib.hid h4
        have HC := Lib.hid hcall
        clear h4 hcall
        go_wp2_with fail
        rw [show ∀ (a : Array Value) (w : World), (callFunc F a).run Try.prog w = .ok (.enter F a) w from hE, Oper.upon_enter]
        refine HC.out.mono ?_
        rintro e w' ⟨rfl, y, rfl⟩
        cases hp : p l[k]
        · have HP := Lib.hid hp
          clear hp
          go_wp2
          go_roundw
          case rel => exact ⟨k + 1, by omega, by go_num, ⟨_, ext_ext _ _ _⟩, fun j h1 h2 => by
            rcases Nat.lt_or_ge j k with h | h
            · exact HNO.out j h h2
            · obtain rfl : j = k := by omega
              exact HP.out⟩
          case measure => simp [intOf]; omega
        · have he : l.findIdx? p = some k := by
            rw [List.findIdx?_eq_some_iff_getElem]
            exact ⟨hlt, hp, fun j hj => by simp [HNO.out j hj (by omega)]⟩
          have HE := Lib.hid he
          clear he hp
          go_wp2
          go_ret
          rw [HE.out]
          exact Ret.of (by (repeat (first | exact grow_refl _ | refine grow_ext _ ?_ | refine grow_alloc _ ?_ | refine grow_drew ?_)))
      · have he : l.findIdx? p = none := by
          rw [List.findIdx?_eq_none_iff]
          intro z hz
          obtain ⟨j, hj, rfl⟩ := List.getElem_of_mem hz
          exact HNO.out j (by omega) hj
        have HE := Lib.hid he
        clear he
        have H4 := Lib.hid h4
        clear h4
        go_wp2
        go_ret
        rw [HE.out]
        exact Ret.of (by (repeat (first | exact grow_refl _ | refine grow_ext _ ?_ | refine grow_alloc _ ?_ | refine grow_drew ?_)))

theorem find_any {p : Bx → Bool} {l : List Bx} : (decide (0 ≤ (((l.findIdx? p).map (fun i : Nat => (i : Int))).getD (-1)))) = l.any p := by
  cases h : l.findIdx? p with
  | none =>
    have := List.findIdx?_eq_none_iff.1 h
    simp only [Option.map_none, Option.getD_none]
    rw [show (decide ((0 : Int) ≤ -1)) = false from rfl]
    symm; rw [List.any_eq_false]; intro x hx; simp [this x hx]
  | some k =>
    rw [List.findIdx?_eq_some_iff_getElem] at h
    obtain ⟨hk, hp, _⟩ := h
    simp only [Option.map_some, Option.getD_some]
    rw [show decide ((0 : Int) ≤ (k : Int)) = true from by simp]
    symm; rw [List.any_eq_true]; exact ⟨_, List.getElem_mem hk, hp⟩

set_option maxRecDepth 100000 in
set_option maxHeartbeats 400000 in
theorem containsFunc_c (F : Nat) (hE : Enters F) (caps : Array Value) (p : Bx → Bool) (l : List Bx) (v : Value) (w : World) (hl : Boxes w v l)
    (hf : ∀ b x, b ∈ l → Calls Try.prog F (#[(.agg #[.int .i64 b.lx, .int .i64 b.ly, .int .i64 b.lz, .int .i64 b.hx, .int .i64 b.hy, .int .i64 b.hz])] ++ caps) (ext w x) (Ret (ext w x) (.bool (p b)))) :
    Calls Try.prog 45 #[v, .func (.func F) #[] caps] w (Ret w (.bool (l.any p))) := by
  have hfa := Lib.hid (@find_any p l)
  have hi := Lib.hid (indexFunc_c F hE caps p l v w hl hf)
  clear hf hl
  go_enter Try.func45, Try.ntmps45
  go_wp2_with fail
  refine hi.out.mono ?_; rintro e w' ⟨rfl, x, rfl⟩
  generalize (((l.findIdx? p).map (fun i : Nat => (i : Int))).getD (-1)) = r at hfa ⊢
  go_wp2
  go_ret
  rw [← hfa.out]
  exact Ret.of (by (repeat (first | exact grow_refl _ | refine grow_ext _ ?_ | refine grow_alloc _ ?_ | refine grow_drew ?_)))

set_option maxRecDepth 100000 in
set_option maxHeartbeats 400000 in
theorem all1_c (b : Bx) (w : World) : Calls Try.prog 102 #[(.agg #[.int .i64 b.lx, .int .i64 b.ly, .int .i64 b.lz, .int .i64 b.hx, .int .i64 b.hy, .int .i64 b.hz])] w (Ret w (.bool (!validB b))) := by
  go_enter Try.func102, Try.ntmps102
  go_wp2_with fail
  go_at_call 44; refine (valid_c b _).mono ?_; rintro e w' ⟨rfl, x, rfl⟩
  go_wp2
  go_ret
  exact Ret.of (by (repeat (first | exact grow_refl _ | refine grow_ext _ ?_ | refine grow_alloc _ ?_ | refine grow_drew ?_)))

theorem enters_all1 : Enters 102 := enters_of Try.func102 (by decide) (by simp [Try.f102])

theorem any_not (l : List Bx) : (!(l.any fun b => !validB b)) = l.all validB := by
  induction l with
  | nil => rfl
  | cons a l ih => simp only [List.any_cons, List.all_cons, Bool.not_or, ih, Bool.not_not]

set_option maxRecDepth 100000 in
set_option maxHeartbeats 400000 in
theorem all_c (l : List Bx) (v : Value) (w : World) (hl : Boxes w v l) :
    Calls Try.prog 75 #[v] w (Ret w (.bool (l.all validB))) := by
  have hi := Lib.hid (containsFunc_c 102 enters_all1 #[] (fun b => !validB b) l v w hl (fun b x _ => all1_c b _))
  have ha := Lib.hid (any_not l)
  clear hl
  go_enter Try.func75, Try.ntmps75
  go_wp2_with fail
  refine hi.out.mono ?_; rintro e w' ⟨rfl, x, rfl⟩
  generalize (l.any fun b => !validB b) = r at ha ⊢
  go_wp2
  go_ret
  rw [← ha.out]
  exact Ret.of (by (repeat (first | exact grow_refl _ | refine grow_ext _ ?_ | refine grow_alloc _ ?_ | refine grow_drew ?_)))

end Go.Proofs.Ytafkibnkpcmmgaa

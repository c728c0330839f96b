/- Fabrics searched by a function: slices.IndexFunc, ContainsFunc; long; slices.Clone of fabrics. -/
import Derived.Test.YtolcpkpfndnkbaaFabE
import Derived.Test.YtolcpkpfndnkbaaClone
namespace Go.Proofs.Ytolcpkpfndnkbaa
open Go.RowKit

set_option maxRecDepth 100000 in
set_option maxHeartbeats 400000 in
theorem indexFabs_c (F : Nat) (hE : Enters F) (caps : Array Value) (p : Fb → Bool) (l : List Fb) (v : Value) (w : World) (hl : Fabs w v l)
    (hf : ∀ b x, b ∈ l → Calls Try.prog F (#[(.agg #[.string b.name, .int .i64 b.main, .int .i64 b.cross, .int .i64 b.length, .int .i64 b.width, .int .i64 b.mass])] ++ caps) (ext w x) (Ret (ext w x) (.bool (p b)))) :
    Calls Try.prog 54 #[v, .func (.func F) #[] caps] w (Ret w (.int .i64 (((l.findIdx? p).map (fun i : Nat => (i : Int))).getD (-1)))) := by
  obtain ⟨a, cap, rfl, h2, h3, h4⟩ := hl
  by_cases hnil : l = []
  · subst hnil
    clear hf hE h4
    go_enter Try.func54, Try.ntmps54
    go_wp2
    refine wp_loop_rounds 1 ?_
    rw [rounds_succ]
    go_wp2
    go_ret
    exact Ret.of (by (repeat (first | exact grow_refl _ | refine grow_ext _ ?_ | refine grow_alloc _ ?_ | refine grow_drew ?_)))
  · have HF := Lib.hid hf
    clear hf
    clear hnil
    have hn : l.length ≤ 9223372036854775807 := by omega
    go_enter Try.func54, Try.ntmps54
    go_wp2
    go_loopw [8, 5] (fun i j wr => ∃ k : Nat, k ≤ l.length ∧ i = .int .i64 k ∧ (∃ x, wr = ext w x) ∧ ∀ j (h : j < k) (h' : j < l.length), p l[j] = false) (fun i j _ => l.length - (intOf i).toNat)
    case atStart => exact ⟨0, by omega, rfl, ext_of (Below.refl _ _), fun j h => by omega⟩
    case round =>
      obtain ⟨k, hk, rfl, ⟨x, rfl⟩, hno⟩ := hrel
      have HNO := Lib.hid hno
      clear hno
      by_cases hlt : k < l.length
      · have hbox := (h4 k hlt).2
        have hcall := HF.out l[k] x (List.getElem_mem hlt)
        obtain ⟨b, off, rfl, c0, c1, c2, c3, c4, c5⟩ := hbox
        have H4 := Lib.hid h4
        have HC := Lib.hid hcall
        clear h4 hcall
        go_wp2_with fail
        rw [show ∀ (a : Array Value) (w : World), (callFunc F a).run Try.prog w = .ok (.enter F a) w from hE, Oper.upon_enter]
        refine HC.out.mono ?_
        rintro e w' ⟨rfl, y, rfl⟩
        cases hp : p l[k]
        · have HP := Lib.hid hp
          clear hp
          go_wp2
          go_roundw
          case rel => exact ⟨k + 1, by omega, by go_num, ⟨_, ext_ext _ _ _⟩, fun j h1 h2 => by
            rcases Nat.lt_or_ge j k with h | h
            · exact HNO.out j h h2
            · obtain rfl : j = k := by omega
              exact HP.out⟩
          case measure => simp [intOf]; omega
        · have he : l.findIdx? p = some k := by
            rw [List.findIdx?_eq_some_iff_getElem]
            exact ⟨hlt, hp, fun j hj => by simp [HNO.out j hj (by omega)]⟩
          have HE := Lib.hid he
          clear he hp
          go_wp2
          go_ret
          rw [HE.out]
          exact Ret.of (by (repeat (first | exact grow_refl _ | refine grow_ext _ ?_ | refine grow_alloc _ ?_ | refine grow_drew ?_)))
      · have he : l.findIdx? p = none := by
          rw [List.findIdx?_eq_none_iff]
          intro z hz
          obtain ⟨j, hj, rfl⟩ := List.getElem_of_mem hz
          exact HNO.out j (by omega) hj
        have HE := Lib.hid he
        clear he
        have H4 := Lib.hid h4
        clear h4
        go_wp2
        go_ret
        rw [HE.out]
        exact Ret.of (by (repeat (first | exact grow_refl _ | refine grow_ext _ ?_ | refine grow_alloc _ ?_ | refine grow_drew ?_)))

theorem find_anyG {α : Type} {p : α → Bool} {l : List α} : (decide (0 ≤ (((l.findIdx? p).map (fun i : Nat => (i : Int))).getD (-1)))) = l.any p := by
  cases h : l.findIdx? p with
  | none =>
    have := List.findIdx?_eq_none_iff.1 h
    simp only [Option.map_none, Option.getD_none]
    rw [show (decide ((0 : Int) ≤ -1)) = false from rfl]
    symm; rw [List.any_eq_false]; intro x hx; simp [this x hx]
  | some k =>
    rw [List.findIdx?_eq_some_iff_getElem] at h
    obtain ⟨hk, hp, _⟩ := h
    simp only [Option.map_some, Option.getD_some]
    rw [show decide ((0 : Int) ≤ (k : Int)) = true from by simp]
    symm; rw [List.any_eq_true]; exact ⟨_, List.getElem_mem hk, hp⟩

set_option maxRecDepth 100000 in
set_option maxHeartbeats 400000 in
theorem containsFabs_c (F : Nat) (hE : Enters F) (caps : Array Value) (p : Fb → Bool) (l : List Fb) (v : Value) (w : World) (hl : Fabs w v l)
    (hf : ∀ b x, b ∈ l → Calls Try.prog F (#[(.agg #[.string b.name, .int .i64 b.main, .int .i64 b.cross, .int .i64 b.length, .int .i64 b.width, .int .i64 b.mass])] ++ caps) (ext w x) (Ret (ext w x) (.bool (p b)))) :
    Calls Try.prog 35 #[v, .func (.func F) #[] caps] w (Ret w (.bool (l.any p))) := by
  have hfa := Lib.hid (@find_anyG _ p l)
  have hi := Lib.hid (indexFabs_c F hE caps p l v w hl hf)
  clear hf hl
  go_enter Try.func35, Try.ntmps35
  go_wp2_with fail
  refine hi.out.mono ?_; rintro e w' ⟨rfl, x, rfl⟩
  generalize (((l.findIdx? p).map (fun i : Nat => (i : Int))).getD (-1)) = r at hfa ⊢
  go_wp2
  go_ret
  rw [← hfa.out]
  exact Ret.of (by (repeat (first | exact grow_refl _ | refine grow_ext _ ?_ | refine grow_alloc _ ?_ | refine grow_drew ?_)))

def longN (f : Fb) : Bool := decide ((60 : Int) < (f.name.size : Int))
set_option maxHeartbeats 400000 in
theorem long1_c (f : Fb) (w : World) : Calls Try.prog 49 #[(.agg #[.string f.name, .int .i64 f.main, .int .i64 f.cross, .int .i64 f.length, .int .i64 f.width, .int .i64 f.mass])] w (Ret w (.bool (longN f))) := by
  go_enter Try.func49, Try.ntmps49
  go_wp2
  go_ret
  exact Ret.of (by (repeat (first | exact grow_refl _ | refine grow_ext _ ?_ | refine grow_alloc _ ?_ | refine grow_drew ?_)))
theorem enters_long1 : Enters 49 := enters_of Try.func49 (by decide) (by simp [Try.f49])

def longB (l : List Fb) : Bool := (decide (8 < l.length) && decide (l.length ≤ 20)) || decide (25 < l.length) || l.any longN
theorem long_small {l : List Fb} (h : longB l = false) : (l.length ≤ 8 ∨ 20 < l.length ∧ l.length ≤ 25) ∧ l.any longN = false := by
  unfold longB at h
  simp only [Bool.or_eq_false_iff, Bool.and_eq_false_iff, decide_eq_false_iff_not] at h
  exact ⟨by omega, h.2⟩

set_option maxRecDepth 100000 in
set_option maxHeartbeats 1000000 in
theorem long_c (l : List Fb) (v : Value) (w : World) (hl : Fabs w v l) : Calls Try.prog 26 #[v] w (Ret w (.bool (longB l))) := by
  have HC := Lib.hid (fun (x : World) (h : Below w.heap.size w x) => containsFabs_c 49 enters_long1 #[] longN l v x (hl.below h) (fun b y _ => long1_c b _))
  obtain ⟨a, cap, rfl, hcap, hcap2, _⟩ := hl.shape
  clear hl
  obtain ⟨r, HR⟩ : ∃ r, Hid (longB l = r) := ⟨_, Lib.hid rfl⟩
  obtain ⟨c, HAN⟩ : ∃ r, Hid (l.any longN = r) := ⟨_, Lib.hid rfl⟩
  rw [HR.out]
  rw [HAN.out] at HC
  have hr := HR.out
  unfold longB at hr
  rw [HAN.out] at hr
  have HRR := Lib.hid hr
  clear hr
  rcases Nat.lt_or_ge 8 l.length with h1 | h1
  · rcases Nat.lt_or_ge 20 l.length with h2 | h2
    · rcases Nat.lt_or_ge 25 l.length with h3 | h3
      · have hr : r = true := by rw [← HRR.out]; simp [h3]
        subst hr
        go_enter Try.func26, Try.ntmps26
        go_wp2
        go_ret
        exact Ret.bool (by simp <;> omega) (by (repeat (first | exact grow_refl _ | refine grow_ext _ ?_ | refine grow_alloc _ ?_ | refine grow_drew ?_)))
      · have hr : c = r := by rw [← HRR.out]; simp; omega
        subst hr
        have d1 : decide ((8 : Int) < (l.length : Int)) = true := by simp; omega
        have d2 : decide ((l.length : Int) ≤ 20) = false := by simp; omega
        have d3 : decide ((25 : Int) < (l.length : Int)) = false := by simp; omega
        go_enter Try.func26, Try.ntmps26
        go_wp2_with fail
        go_at_call 35; refine Calls.mono (HC.out _ (by (repeat (first | exact grow_refl _ | refine grow_ext _ ?_ | refine grow_alloc _ ?_ | refine grow_drew ?_)))) ?_; rintro e w' ⟨rfl, x, rfl⟩
        go_wp2
        go_ret
        exact Ret.of (by (repeat (first | exact grow_refl _ | refine grow_ext _ ?_ | refine grow_alloc _ ?_ | refine grow_drew ?_)))
    · have hr : r = true := by rw [← HRR.out]; simp [h1, h2]
      subst hr
      go_enter Try.func26, Try.ntmps26
      go_wp2
      go_ret
      exact Ret.bool (by simp <;> omega) (by (repeat (first | exact grow_refl _ | refine grow_ext _ ?_ | refine grow_alloc _ ?_ | refine grow_drew ?_)))
  · have hr : c = r := by
      rw [← HRR.out]
      rw [show decide (8 < l.length) = false by simp; omega, show decide (25 < l.length) = false by simp; omega]
      simp
    subst hr
    have d1 : decide ((8 : Int) < (l.length : Int)) = false := by simp; omega
    have d3 : decide ((25 : Int) < (l.length : Int)) = false := by simp; omega
    go_enter Try.func26, Try.ntmps26
    go_wp2_with fail
    go_at_call 35; refine Calls.mono (HC.out _ (by (repeat (first | exact grow_refl _ | refine grow_ext _ ?_ | refine grow_alloc _ ?_ | refine grow_drew ?_)))) ?_; rintro e w' ⟨rfl, x, rfl⟩
    go_wp2
    go_ret
    exact Ret.of (by (repeat (first | exact grow_refl _ | refine grow_ext _ ?_ | refine grow_alloc _ ?_ | refine grow_drew ?_)))

end Go.Proofs.Ytolcpkpfndnkbaa

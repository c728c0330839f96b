/- The volume of a solid, and its cross-section, as numbers of unit cells. -/
import Derived.Test.YtafkibnkpcmmgaaSumA
namespace Go.Proofs.Ytafkibnkpcmmgaa

/-- A box has the unit cell from (x, y, z) on. -/
def inU (a : Bx) (x y z : Int) : Bool := decide (a.lx ≤ x ∧ x < a.hx ∧ a.ly ≤ y ∧ y < a.hy ∧ a.lz ≤ z ∧ z < a.hz)
def opensB (h b : Bx) : Bool := decide (b.lx < h.hx ∧ h.lx < b.hx ∧ b.ly < h.hy ∧ h.ly < b.hy ∧ b.lz < h.hz ∧ h.lz < b.hz)
def selB (l m : List Bx) (c : Bx) : Bool := (l.any fun a => containsB a c) && !(m.any fun h => opensB h c)
def solU (l m : List Bx) (x y z : Int) : Bool := (l.any fun a => inU a x y z) && !(m.any fun h => inU h x y z)
def b01 (b : Bool) : Int := if b = true then 1 else 0
def indU (l m : List Bx) (x y z : Int) : Int := b01 (solU l m x y z)
def volB (b : Bx) : Int := (b.hx - b.lx) * (b.hy - b.ly) * (b.hz - b.lz)
def areaB (b : Bx) : Int := (b.hy - b.ly) * (b.hz - b.lz)

theorem inU_iff {a : Bx} {x y z : Int} : inU a x y z = true ↔ (a.lx ≤ x ∧ x < a.hx ∧ a.ly ≤ y ∧ y < a.hy ∧ a.lz ≤ z ∧ z < a.hz) := by unfold inU; exact decide_eq_true_iff
theorem opens_iff {h b : Bx} : opensB h b = true ↔ (b.lx < h.hx ∧ h.lx < b.hx ∧ b.ly < h.hy ∧ h.ly < b.hy ∧ b.lz < h.hz ∧ h.lz < b.hz) := by unfold opensB; exact decide_eq_true_iff
theorem b01_true : b01 true = 1 := rfl
theorem b01_false : b01 false = 0 := rfl
theorem b01_bounds (b : Bool) : 0 ≤ b01 b ∧ b01 b ≤ 1 := by cases b <;> decide

/-- No end of a box lies strictly within the span p, along axis k. -/
def clearOf (p : Int × Int) (k : Int) (a : Bx) : Prop := (a.lo k ≤ p.1 ∨ p.2 ≤ a.lo k) ∧ (a.hi k ≤ p.1 ∨ p.2 ≤ a.hi k)

theorem bool_ext {a b : Bool} (h : a = true ↔ b = true) : a = b := by
  cases a <;> cases b <;> simp_all
theorem any_congr' {α : Type} {p q : α → Bool} {l : List α} (h : ∀ a ∈ l, p a = q a) : l.any p = l.any q := by
  induction l with
  | nil => rfl
  | cons a l ih => rw [List.any_cons, List.any_cons, h a (by simp), ih fun b hb => h b (List.mem_cons_of_mem _ hb)]

theorem cell_in {a : Bx} {p q r : Int × Int} {x y z : Int} (h0 : clearOf p 0 a) (h1 : clearOf q 1 a) (h2 : clearOf r 2 a) (hx : p.1 ≤ x ∧ x < p.2) (hy : q.1 ≤ y ∧ y < q.2) (hz : r.1 ≤ z ∧ z < r.2) :
    containsB a (cellX p q r) = inU a x y z := by
  apply bool_ext
  rw [contains_iff, inU_iff]
  obtain ⟨h00, h01⟩ := h0
  obtain ⟨h10, h11⟩ := h1
  obtain ⟨h20, h21⟩ := h2
  change a.lx ≤ p.1 ∨ p.2 ≤ a.lx at h00
  change a.hx ≤ p.1 ∨ p.2 ≤ a.hx at h01
  change a.ly ≤ q.1 ∨ q.2 ≤ a.ly at h10
  change a.hy ≤ q.1 ∨ q.2 ≤ a.hy at h11
  change a.lz ≤ r.1 ∨ r.2 ≤ a.lz at h20
  change a.hz ≤ r.1 ∨ r.2 ≤ a.hz at h21
  show (a.lx ≤ p.1 ∧ p.2 ≤ a.hx ∧ a.ly ≤ q.1 ∧ q.2 ≤ a.hy ∧ a.lz ≤ r.1 ∧ r.2 ≤ a.hz) ↔ _
  omega
theorem cell_open {a : Bx} {p q r : Int × Int} {x y z : Int} (h0 : clearOf p 0 a) (h1 : clearOf q 1 a) (h2 : clearOf r 2 a) (hx : p.1 ≤ x ∧ x < p.2) (hy : q.1 ≤ y ∧ y < q.2) (hz : r.1 ≤ z ∧ z < r.2) :
    opensB a (cellX p q r) = inU a x y z := by
  apply bool_ext
  rw [opens_iff, inU_iff]
  obtain ⟨h00, h01⟩ := h0
  obtain ⟨h10, h11⟩ := h1
  obtain ⟨h20, h21⟩ := h2
  change a.lx ≤ p.1 ∨ p.2 ≤ a.lx at h00
  change a.hx ≤ p.1 ∨ p.2 ≤ a.hx at h01
  change a.ly ≤ q.1 ∨ q.2 ≤ a.ly at h10
  change a.hy ≤ q.1 ∨ q.2 ≤ a.hy at h11
  change a.lz ≤ r.1 ∨ r.2 ≤ a.lz at h20
  change a.hz ≤ r.1 ∨ r.2 ≤ a.hz at h21
  show (p.1 < a.hx ∧ a.lx < p.2 ∧ q.1 < a.hy ∧ a.ly < q.2 ∧ r.1 < a.hz ∧ a.lz < r.2) ↔ _
  omega
theorem cell_sel {l m : List Bx} {p q r : Int × Int} {x y z : Int} (h : ∀ a, a ∈ l ∨ a ∈ m → clearOf p 0 a ∧ clearOf q 1 a ∧ clearOf r 2 a) (hx : p.1 ≤ x ∧ x < p.2) (hy : q.1 ≤ y ∧ y < q.2) (hz : r.1 ≤ z ∧ z < r.2) :
    selB l m (cellX p q r) = solU l m x y z := by
  unfold selB solU
  rw [any_congr' fun a ha => cell_in (h a (.inl ha)).1 (h a (.inl ha)).2.1 (h a (.inl ha)).2.2 hx hy hz, any_congr' fun a ha => cell_open (h a (.inr ha)).1 (h a (.inr ha)).2.1 (h a (.inr ha)).2.2 hx hy hz]

theorem sumL_sumI {α : Type} (f : α → Int → Int) (lo hi : Int) (l : List α) : sumL (fun a => sumI (f a) lo hi) l = sumI (fun x => sumL (fun a => f a x) l) lo hi := by
  induction l with
  | nil => simp only [sumL]; rw [sumI_zero]
  | cons a l ih => simp only [sumL]; rw [ih, sumI_plus]

/-- An axis' cuts: ascending, from lo to hi, and no end of a box lies strictly between two neighbours. -/
structure CutsOf (A : List Int) (k lo hi : Int) (all : List Bx) : Prop where
  asc : A.Pairwise (· < ·)
  ne : A ≠ []
  head : A.head ne = lo
  last : A.getLast ne = hi
  clear : ∀ p ∈ pairsL A, ∀ a ∈ all, clearOf p k a

theorem CutsOf.span {A : List Int} {k lo hi : Int} {all : List Bx} (h : CutsOf A k lo hi all) {p : Int × Int} (hp : p ∈ pairsL A) : lo ≤ p.1 ∧ p.1 < p.2 ∧ p.2 ≤ hi := by
  have := pairs_mem A h.asc p hp
  have h1 := head_le h.asc h.ne this.1
  have h2 := le_last h.asc h.ne this.2.1
  rw [h.head] at h1
  rw [h.last] at h2
  omega
theorem CutsOf.sum {A : List Int} {k lo hi : Int} {all : List Bx} (h : CutsOf A k lo hi all) (f : Int → Int) : sumL (fun p => sumI f p.1 p.2) (pairsL A) = sumI f lo hi := by
  rw [pairs_sum f A h.ne h.asc, h.head, h.last]
theorem CutsOf.le {A : List Int} {k lo hi : Int} {all : List Bx} (h : CutsOf A k lo hi all) : lo ≤ hi := by
  have := head_le h.asc h.ne (List.getLast_mem h.ne)
  rw [h.head, h.last] at this; exact this

section
variable {l m : List Bx} {H : Bx} {A0 A1 A2 : List Int}

def cellsOf (l m : List Bx) (A0 A1 A2 : List Int) : List Bx := (rowA (pairsL A0) (pairsL A1) (pairsL A2)).filter (selB l m)

theorem sum_rowA (f : Bx → Int) (P0 P1 P2 : List (Int × Int)) : sumL f (rowA P0 P1 P2) = sumL (fun p => sumL (fun q => sumL (fun r => f (cellX p q r)) P2) P1) P0 := by
  unfold rowA rowX rowY
  rw [sumL_flat]
  refine sumL_congr fun p _ => ?_
  rw [sumL_flat]
  refine sumL_congr fun q _ => ?_
  rw [sumL_map]
theorem mem_rowA {P0 P1 P2 : List (Int × Int)} {c : Bx} : c ∈ rowA P0 P1 P2 ↔ ∃ p ∈ P0, ∃ q ∈ P1, ∃ r ∈ P2, c = cellX p q r := by
  unfold rowA rowX rowY
  simp only [List.mem_flatMap, List.mem_map]
  constructor
  · rintro ⟨p, hp, q, hq, r, hr, e⟩; exact ⟨p, hp, q, hq, r, hr, e.symm⟩
  · rintro ⟨p, hp, q, hq, r, hr, e⟩; exact ⟨p, hp, q, hq, r, hr, e.symm⟩

/-- The sum over the parts of a solid of what a part counts in each of its columns, layer by layer. -/
theorem sum_cells (g : Int → Int) (h0 : CutsOf A0 0 H.lx H.hx (l ++ m)) (h1 : CutsOf A1 1 H.ly H.hy (l ++ m)) (h2 : CutsOf A2 2 H.lz H.hz (l ++ m)) :
    sumL (fun c => sumI g c.lx c.hx * areaB c) (cellsOf l m A0 A1 A2) = sumI (fun x => g x * sumI (fun y => sumI (fun z => indU l m x y z) H.lz H.hz) H.ly H.hy) H.lx H.hx := by
  unfold cellsOf
  rw [sumL_filter, sum_rowA, ← h0.sum]
  refine sumL_congr fun p hp => ?_
  have sp := h0.span hp
  have key : ∀ x, p.1 ≤ x → x < p.2 → sumL (fun q => sumL (fun r => if selB l m (cellX p q r) = true then (q.2 - q.1) * (r.2 - r.1) else 0) (pairsL A2)) (pairsL A1) = sumI (fun y => sumI (fun z => indU l m x y z) H.lz H.hz) H.ly H.hy := by
    intro x hx1 hx2
    rw [← h1.sum]
    refine sumL_congr fun q hq => ?_
    have sq := h1.span hq
    have inner : ∀ y, q.1 ≤ y → y < q.2 → sumL (fun r => if selB l m (cellX p q r) = true then r.2 - r.1 else 0) (pairsL A2) = sumI (fun z => indU l m x y z) H.lz H.hz := by
      intro y hy1 hy2
      rw [← h2.sum]
      refine sumL_congr fun r hr => ?_
      have sr := h2.span hr
      have hs : ∀ z, r.1 ≤ z → z < r.2 → indU l m x y z = b01 (selB l m (cellX p q r)) := fun z hz1 hz2 => by
        unfold indU
        rw [cell_sel (l := l) (m := m) (p := p) (q := q) (r := r) (fun a ha => ⟨h0.clear p hp a (List.mem_append.2 ha), h1.clear q hq a (List.mem_append.2 ha), h2.clear r hr a (List.mem_append.2 ha)⟩) ⟨hx1, hx2⟩ ⟨hy1, hy2⟩ ⟨hz1, hz2⟩]
      rw [sumI_congr hs, sumI_const _ (by omega)]
      by_cases hh : selB l m (cellX p q r) = true
      · rw [if_pos hh, hh, b01_true]; omega
      · rw [if_neg hh, (Bool.not_eq_true _).mp hh, b01_false]; omega
    have e : ∀ y, q.1 ≤ y → y < q.2 → sumI (fun z => indU l m x y z) H.lz H.hz = sumL (fun r => if selB l m (cellX p q r) = true then r.2 - r.1 else 0) (pairsL A2) := fun y a b => (inner y a b).symm
    rw [sumI_congr e, sumI_const _ (by omega)]
    rw [Int.mul_comm]
    have : ∀ (c : Int) (L : List (Int × Int)), sumL (fun r => if selB l m (cellX p q r) = true then c * (r.2 - r.1) else 0) L = c * sumL (fun r => if selB l m (cellX p q r) = true then r.2 - r.1 else 0) L := by
      intro c L
      induction L with
      | nil => simp [sumL]
      | cons a L ih =>
        simp only [sumL]
        rw [ih, Int.mul_add]
        congr 1
        split <;> simp
    exact this _ _
  have e : ∀ x, p.1 ≤ x → x < p.2 → g x * sumI (fun y => sumI (fun z => indU l m x y z) H.lz H.hz) H.ly H.hy = g x * sumL (fun q => sumL (fun r => if selB l m (cellX p q r) = true then (q.2 - q.1) * (r.2 - r.1) else 0) (pairsL A2)) (pairsL A1) := fun x a b => by rw [key x a b]
  rw [sumI_congr e]
  generalize hS : sumL (fun q => sumL (fun r => if selB l m (cellX p q r) = true then (q.2 - q.1) * (r.2 - r.1) else 0) (pairsL A2)) (pairsL A1) = S
  have hm : sumI (fun x => g x * S) p.1 p.2 = sumI g p.1 p.2 * S := by
    unfold sumI
    generalize (p.2 - p.1).toNat = n
    induction n with
    | zero => simp [sumN]
    | succ n ih => rw [sumN, sumN, ih, Int.add_mul]
  rw [hm, ← hS]
  have out : ∀ (c : Int) (L1 L2 : List (Int × Int)), sumL (fun q => sumL (fun r => if selB l m (cellX p q r) = true then c * areaB (cellX p q r) else 0) L2) L1 = c * sumL (fun q => sumL (fun r => if selB l m (cellX p q r) = true then (q.2 - q.1) * (r.2 - r.1) else 0) L2) L1 := by
    intro c L1 L2
    induction L1 with
    | nil => simp [sumL]
    | cons q L1 ih =>
      simp only [sumL]
      rw [ih, Int.mul_add]
      congr 1
      clear ih
      induction L2 with
      | nil => simp [sumL]
      | cons r L2 ih2 =>
        simp only [sumL]
        rw [ih2, Int.mul_add]
        congr 1
        split
        · rfl
        · simp
  exact out (sumI g p.1 p.2) (pairsL A1) (pairsL A2)

def secI (l m : List Bx) (H : Bx) (x : Int) : Int := sumI (fun y => sumI (fun z => indU l m x y z) H.lz H.hz) H.ly H.hy

theorem vol_cells (h0 : CutsOf A0 0 H.lx H.hx (l ++ m)) (h1 : CutsOf A1 1 H.ly H.hy (l ++ m)) (h2 : CutsOf A2 2 H.lz H.hz (l ++ m)) :
    sumL volB (cellsOf l m A0 A1 A2) = sum3 (indU l m) H := by
  have := sum_cells (l := l) (m := m) (H := H) (fun _ => 1) h0 h1 h2
  simp only [Int.one_mul] at this
  unfold sum3
  rw [← this]
  refine sumL_congr fun c hc => ?_
  obtain ⟨p, hp, q, hq, r, hr, rfl⟩ := mem_rowA.1 (List.mem_filter.1 hc).1
  rw [sumI_const _ (by have := h0.span hp; simp only [cellX]; omega), Int.one_mul]
  unfold volB areaB
  rw [Int.mul_assoc]

theorem sumI_pick (x0 lo hi : Int) : sumI (fun x => if x = x0 then 1 else 0) lo hi = if lo ≤ x0 ∧ x0 < hi then 1 else 0 := by
  by_cases h : lo ≤ x0 ∧ x0 < hi
  · rw [if_pos h, sumI_split h.1 (by omega), sumI_split (show x0 ≤ x0 + 1 by omega) (by omega), sumI_null fun x a b => if_neg (by omega), sumI_null (lo := x0 + 1) fun x a b => if_neg (by omega)]
    unfold sumI
    rw [show (x0 + 1 - x0).toNat = 1 by omega]
    simp [sumN]
  · rw [if_neg h, sumI_null fun x a b => if_neg (by omega)]

theorem sec_cells (x0 : Int) (h0 : CutsOf A0 0 H.lx H.hx (l ++ m)) (h1 : CutsOf A1 1 H.ly H.hy (l ++ m)) (h2 : CutsOf A2 2 H.lz H.hz (l ++ m)) :
    sumL (fun c => if c.lx ≤ x0 ∧ x0 < c.hx then areaB c else 0) (cellsOf l m A0 A1 A2) = if H.lx ≤ x0 ∧ x0 < H.hx then secI l m H x0 else 0 := by
  have := sum_cells (l := l) (m := m) (H := H) (fun x => if x = x0 then 1 else 0) h0 h1 h2
  have e : ∀ (c : Bx), sumI (fun x => if x = x0 then 1 else 0) c.lx c.hx * areaB c = if c.lx ≤ x0 ∧ x0 < c.hx then areaB c else 0 := fun c => by
    rw [sumI_pick]; split <;> simp
  rw [sumL_congr fun c _ => e c] at this
  rw [this]
  have e2 : ∀ x, (if x = x0 then (1 : Int) else 0) * sumI (fun y => sumI (fun z => indU l m x y z) H.lz H.hz) H.ly H.hy = if x = x0 then secI l m H x0 else 0 := fun x => by
    split
    · rename_i h; subst h; rw [Int.one_mul]; rfl
    · simp
  rw [sumI_congr fun x _ _ => e2 x]
  by_cases h : H.lx ≤ x0 ∧ x0 < H.hx
  · rw [if_pos h, sumI_split h.1 (by omega), sumI_split (show x0 ≤ x0 + 1 by omega) (by omega), sumI_null fun x a b => if_neg (by omega), sumI_null (lo := x0 + 1) fun x a b => if_neg (by omega)]
    unfold sumI
    rw [show (x0 + 1 - x0).toNat = 1 by omega]
    simp [sumN]
  · rw [if_neg h, sumI_null fun x a b => if_neg (by omega)]

theorem ind_bounds (x y z : Int) : 0 ≤ indU l m x y z ∧ indU l m x y z ≤ 1 := b01_bounds _
theorem sec_nonneg (x : Int) : 0 ≤ secI l m H x := sumI_nonneg fun _ _ _ => sumI_nonneg fun _ _ _ => (ind_bounds _ _ _).1
theorem sum3_nonneg {f : Int → Int → Int → Int} (h : ∀ x y z, 0 ≤ f x y z) (b : Bx) : 0 ≤ sum3 f b := sumI_nonneg fun _ _ _ => sumI_nonneg fun _ _ _ => sumI_nonneg fun _ _ _ => h _ _ _
theorem sum3_one {b : Bx} (hb : b.lx ≤ b.hx ∧ b.ly ≤ b.hy ∧ b.lz ≤ b.hz) : sum3 (fun _ _ _ => 1) b = volB b := by
  unfold sum3 volB
  simp only [sumI_const _ hb.2.2, sumI_const _ hb.2.1, sumI_const _ hb.1, Int.one_mul]
  generalize b.hx - b.lx = x
  generalize b.hy - b.ly = y
  generalize b.hz - b.lz = z
  rw [Int.mul_comm z y, Int.mul_comm (y * z) x, Int.mul_assoc]
theorem vol_le {b : Bx} (hb : b.lx ≤ b.hx ∧ b.ly ≤ b.hy ∧ b.lz ≤ b.hz) : sum3 (indU l m) b ≤ volB b := by
  rw [← sum3_one hb]; exact sum3_le fun x y z => (ind_bounds x y z).2
/-- A box' own unit cells, in any box that contains it. -/
theorem sum3_own {a b : Bx} (hc : containsB a b = true) (hb : b.lx ≤ b.hx ∧ b.ly ≤ b.hy ∧ b.lz ≤ b.hz) : sum3 (fun x y z => b01 (inU b x y z)) a = volB b := by
  rw [sum3_grow hc hb (fun x y z h => by
    have : inU b x y z = false := by
      cases hh : inU b x y z
      · rfl
      · have := inU_iff.1 hh; omega
    rw [this]; rfl), ← sum3_one hb]
  unfold sum3
  refine sumI_congr fun x hx1 hx2 => sumI_congr fun y hy1 hy2 => sumI_congr fun z hz1 hz2 => ?_
  show b01 (inU b x y z) = 1
  rw [inU_iff.2 ⟨hx1, hx2, hy1, hy2, hz1, hz2⟩]; rfl
/-- Beyond all boxes there is no concrete. -/
theorem ind_out {x y z : Int} (h : ∀ a ∈ l, containsB H a = true) (ho : x < H.lx ∨ H.hx ≤ x ∨ y < H.ly ∨ H.hy ≤ y ∨ z < H.lz ∨ H.hz ≤ z) : indU l m x y z = 0 := by
  have : solU l m x y z = false := by
    unfold solU
    rw [Bool.and_eq_false_iff]
    left
    rw [List.any_eq_false]
    intro a ha hin
    have h1 := inU_iff.1 hin
    have h2 := contains_iff.1 (h a ha)
    omega
  unfold indU; rw [this]; rfl
theorem sec_out {x : Int} (h : ∀ a ∈ l, containsB H a = true) (ho : x < H.lx ∨ H.hx ≤ x) : secI l m H x = 0 :=
  sumI_null fun _ _ _ => sumI_null fun _ _ _ => ind_out h (by omega)
theorem vol_wide {G : Bx} (h : ∀ a ∈ l, containsB H a = true) (hg : containsB G H = true) (hH : H.lx ≤ H.hx ∧ H.ly ≤ H.hy ∧ H.lz ≤ H.hz) : sum3 (indU l m) G = sum3 (indU l m) H :=
  sum3_grow hg hH fun _ _ _ ho => ind_out h ho

/-- A further hole takes away at most its own volume. -/
theorem hole_bounds (b : Bx) (x y z : Int) : indU l (m ++ [b]) x y z ≤ indU l m x y z ∧ indU l m x y z ≤ indU l (m ++ [b]) x y z + b01 (inU b x y z) := by
  unfold indU solU
  rw [List.any_append]
  generalize (l.any fun a => inU a x y z) = p
  generalize (m.any fun a => inU a x y z) = q
  simp only [List.any_cons, List.any_nil, Bool.or_false]
  generalize inU b x y z = r
  cases p <;> cases q <;> cases r <;> decide
theorem box_bounds (b : Bx) (x y z : Int) : indU l m x y z ≤ indU (l ++ [b]) m x y z ∧ indU (l ++ [b]) m x y z ≤ indU l m x y z + b01 (inU b x y z) := by
  unfold indU solU
  rw [List.any_append]
  generalize (l.any fun a => inU a x y z) = p
  generalize (m.any fun a => inU a x y z) = q
  simp only [List.any_cons, List.any_nil, Bool.or_false]
  generalize inU b x y z = r
  cases p <;> cases q <;> cases r <;> decide
/-- A hole beside the hull takes away nothing. -/
theorem hole_beside {b : Bx} (h : ∀ a ∈ l, containsB H a = true) (hg : 0 ≤ gapI H b) (x y z : Int) : indU l (m ++ [b]) x y z = indU l m x y z := by
  by_cases hb : inU b x y z = true
  · have h1 := inU_iff.1 hb
    have ho : x < H.lx ∨ H.hx ≤ x ∨ y < H.ly ∨ H.hy ≤ y ∨ z < H.lz ∨ H.hz ≤ z := by
      unfold gapI alongI at hg
      change 0 ≤ max (max (b.lx - H.hx) (H.lx - b.hx)) (max (max (b.ly - H.hy) (H.ly - b.hy)) (max (b.lz - H.hz) (H.lz - b.hz))) at hg
      omega
    rw [ind_out h ho, ind_out h ho]
  · unfold indU solU
    rw [List.any_append]
    simp only [List.any_cons, List.any_nil, Bool.or_false]
    rw [(Bool.not_eq_true _).mp hb, Bool.or_false]

def movedX (dx dy dz : Int) (b : Bx) : Bx := ⟨b.lx + dx, b.ly + dy, b.lz + dz, b.hx + dx, b.hy + dy, b.hz + dz⟩
theorem inU_moved (a : Bx) (dx dy dz x y z : Int) : inU (movedX dx dy dz a) x y z = inU a (x - dx) (y - dy) (z - dz) := by
  apply bool_ext
  rw [inU_iff, inU_iff]
  simp only [movedX]
  omega
theorem ind_moved (dx dy dz x y z : Int) : indU (l.map (movedX dx dy dz)) (m.map (movedX dx dy dz)) x y z = indU l m (x - dx) (y - dy) (z - dz) := by
  unfold indU solU
  simp only [List.any_map]
  have e : ∀ a, ((fun a => inU a x y z) ∘ movedX dx dy dz) a = inU a (x - dx) (y - dy) (z - dz) := fun a => inU_moved a dx dy dz x y z
  rw [any_congr' fun a _ => e a, any_congr' (l := m) fun a _ => e a]
theorem vol_moved (dx dy dz : Int) : sum3 (indU (l.map (movedX dx dy dz)) (m.map (movedX dx dy dz))) (movedX dx dy dz H) = sum3 (indU l m) H := by
  unfold sum3
  simp only [movedX, ind_moved]
  rw [sumI_shift (fun x => sumI (fun y => sumI (fun z => indU l m x (y - dy) (z - dz)) (H.lz + dz) (H.hz + dz)) (H.ly + dy) (H.hy + dy))]
  refine sumI_congr fun x _ _ => ?_
  rw [sumI_shift (fun y => sumI (fun z => indU l m x y (z - dz)) (H.lz + dz) (H.hz + dz))]
  refine sumI_congr fun y _ _ => ?_
  rw [sumI_shift (fun z => indU l m x y z)]
end

end Go.Proofs.Ytafkibnkpcmmgaa

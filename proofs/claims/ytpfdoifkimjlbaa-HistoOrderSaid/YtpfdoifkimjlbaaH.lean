/- No program: histograms as plain lists: bounds, counts; what is asked of them and what they become. -/
import Derived.Test.YtpfdoifkimjlbaaK
import Derived.Test.YtpfdoifkimjlbaaM
namespace Go.Proofs.Ytpfdoifkimjlbaa.H
open Go.RowKit Go.Proofs.Ytpfdoifkimjlbaa
set_option linter.unusedVariables false
set_option linter.unusedSimpArgs false

/-- Each bound is greater than the one before it. -/
def up (B : List Int) : Prop := ∀ i, i + 1 < B.length → B.getD i 0 < B.getD (i + 1) 0
theorem up_lt {B : List Int} (h : up B) : ∀ (d i : Nat), i + d + 1 < B.length → B.getD i 0 < B.getD (i + d + 1) 0 := by
  intro d
  induction d with
  | zero => intro i hi; exact h i hi
  | succ d ih => intro i hi; have := ih i (by omega); have := h (i + d + 1) (by omega); rw [show i + (d + 1) + 1 = i + d + 1 + 1 by omega]; omega
theorem up_lt' {B : List Int} (h : up B) {i j : Nat} (hij : i < j) (hj : j < B.length) : B.getD i 0 < B.getD j 0 := by
  have := up_lt h (j - i - 1) i (by omega)
  rwa [show i + (j - i - 1) + 1 = j by omega] at this

/-- How many bounds are at most x. -/
def cnt (B : List Int) (x : Int) : Nat := (B.filter (fun b => decide (b ≤ x))).length
theorem cnt_le (B : List Int) (x : Int) : cnt B x ≤ B.length := List.length_filter_le _ _
theorem cnt_take (B : List Int) (x : Int) (k : Nat) (hk : k < B.length) : cnt (B.take (k + 1)) x = cnt (B.take k) x + if B.getD k 0 ≤ x then 1 else 0 := by
  unfold cnt
  rw [List.take_succ_eq_append_getElem hk, List.filter_append, List.length_append, List.getD_eq_getElem?_getD, List.getElem?_eq_getElem hk]
  by_cases h : B[k] ≤ x <;> simp [List.filter_cons, h]
/-- Of increasing bounds these are the first ones. -/
theorem cnt_at {B : List Int} (h : up B) (x : Int) : ∀ k, k ≤ B.length → (∀ i, i < k → B.getD i 0 ≤ x) → (k < B.length → x < B.getD k 0) → cnt B x = k := by
  intro k hk h1 h2
  have a : ∀ j, j ≤ k → cnt (B.take j) x = j := by
    intro j
    induction j with
    | zero => intro _; rfl
    | succ j ih => intro hj; rw [cnt_take B x j (by omega), ih (by omega), if_pos (h1 j (by omega))]
  have b : ∀ d, k + d ≤ B.length → cnt (B.take (k + d)) x = k := by
    intro d
    induction d with
    | zero => intro _; exact a k (Nat.le_refl _)
    | succ d ih =>
      intro hd
      have : x < B.getD (k + d) 0 := by
        rcases Nat.eq_zero_or_pos d with rfl | h0
        · exact h2 (by omega)
        · have := up_lt' h (i := k) (j := k + d) (by omega) (by omega)
          have := h2 (by omega); omega
      rw [← Nat.add_assoc, cnt_take B x (k + d) (by omega), ih (by omega), if_neg (by omega)]; rfl
  have := b (B.length - k) (by omega)
  rwa [show k + (B.length - k) = B.length by omega, List.take_length] at this
theorem cnt_lo {B : List Int} (h : up B) (x : Int) {i : Nat} (hi : i < cnt B x) : B.getD i 0 ≤ x := by
  rcases Int.lt_or_le x (B.getD i 0) with h1 | h1
  · exfalso
    -- the least such index
    have : ∃ k, k ≤ i ∧ x < B.getD k 0 ∧ ∀ j, j < k → B.getD j 0 ≤ x := by
      clear hi
      induction i using Nat.strongRecOn with
      | _ i ih =>
        by_cases hx : ∃ j, j < i ∧ x < B.getD j 0
        · obtain ⟨j, hj, hx⟩ := hx
          obtain ⟨k, hk, h2, h3⟩ := ih j hj hx
          exact ⟨k, by omega, h2, h3⟩
        · exact ⟨i, Nat.le_refl _, h1, fun j hj => by
            rcases Int.lt_or_le x (B.getD j 0) with h4 | h4
            · exact absurd ⟨j, hj, h4⟩ hx
            · exact h4⟩
    obtain ⟨k, hk, h2, h3⟩ := this
    have hl := cnt_le B x
    have := cnt_at h x k (by omega) h3 (fun _ => h2)
    omega
  · exact h1
theorem cnt_hi {B : List Int} (h : up B) (x : Int) {i : Nat} (hi : cnt B x ≤ i) (hl : i < B.length) : x < B.getD i 0 := by
  rcases Int.lt_or_le x (B.getD i 0) with h1 | h1
  · exact h1
  · exfalso
    have h3 : ∀ j, j < i + 1 → B.getD j 0 ≤ x := by
      intro j hj
      rcases Nat.lt_or_ge j i with h2 | h2
      · have := up_lt' h h2 hl; omega
      · rw [show j = i by omega]; exact h1
    -- the greatest prefix
    have a : ∀ j, j ≤ i + 1 → cnt (B.take j) x = j := by
      intro j
      induction j with
      | zero => intro _; rfl
      | succ j ih => intro hj; rw [cnt_take B x j (by omega), ih (by omega), if_pos (h3 j (by omega))]
    have b : ∀ d, i + 1 + d ≤ B.length → i + 1 ≤ cnt (B.take (i + 1 + d)) x := by
      intro d
      induction d with
      | zero => intro _; rw [Nat.add_zero, a (i + 1) (Nat.le_refl _)]; exact Nat.le_refl _
      | succ d ih => intro hd; rw [← Nat.add_assoc, cnt_take B x (i + 1 + d) (by omega)]; have := ih (by omega); omega
    have := b (B.length - (i + 1)) (by omega)
    rw [show i + 1 + (B.length - (i + 1)) = B.length by omega, List.take_length] at this
    omega

/-! ### sums -/
theorem sum_set (l : List Int) (k : Nat) (v : Int) (hk : k < l.length) : (l.set k v).sum = l.sum - l.getD k 0 + v := by
  induction l generalizing k with
  | nil => simp at hk
  | cons a l ih =>
    rcases k with _ | k
    · simp [List.getD_eq_getElem?_getD]; omega
    · have := ih k (by simpa using hk)
      simp only [List.set_cons_succ, List.sum_cons, this]
      simp only [List.getD_eq_getElem?_getD, List.getElem?_cons_succ]; omega
theorem sum_take (l : List Int) (k : Nat) (hk : k < l.length) : (l.take (k + 1)).sum = (l.take k).sum + l.getD k 0 := by
  rw [List.take_succ_eq_append_getElem hk, List.sum_append, List.getD_eq_getElem?_getD, List.getElem?_eq_getElem hk]
  simp
theorem sum_nonneg {l : List Int} (h : ∀ x ∈ l, 0 ≤ x) : 0 ≤ l.sum := by
  induction l with
  | nil => simp
  | cons a l ih => rw [List.sum_cons]; have := h a (by simp); have := ih (fun x hx => h x (by simp [hx])); omega
theorem sum_take_le {l : List Int} (h : ∀ x ∈ l, 0 ≤ x) (k : Nat) : 0 ≤ (l.take k).sum ∧ (l.take k).sum ≤ l.sum := by
  have e : l.sum = (l.take k).sum + (l.drop k).sum := by rw [← List.sum_append, List.take_append_drop]
  have a := sum_nonneg (l := l.take k) (fun x hx => h x (List.mem_of_mem_take hx))
  have b := sum_nonneg (l := l.drop k) (fun x hx => h x (List.mem_of_mem_drop hx))
  omega
theorem getD_nonneg {l : List Int} (h : ∀ x ∈ l, 0 ≤ x) (k : Nat) : 0 ≤ l.getD k 0 := by
  rw [List.getD_eq_getElem?_getD]
  rcases Nat.lt_or_ge k l.length with hk | hk
  · rw [List.getElem?_eq_getElem hk]; exact h _ (by simp)
  · rw [List.getElem?_eq_none hk]; decide
theorem getD_le_sum {l : List Int} (h : ∀ x ∈ l, 0 ≤ x) (k : Nat) : l.getD k 0 ≤ l.sum := by
  rcases Nat.lt_or_ge k l.length with hk | hk
  · have := sum_take l k hk; have := sum_take_le h k; have := sum_take_le h (k + 1); omega
  · have := sum_nonneg h; rw [List.getD_eq_getElem?_getD, List.getElem?_eq_none hk]; exact this

/-! ### a histogram: bounds and counts -/
structure Fine (B C : List Int) : Prop where
  up : up B
  rng : ∀ x ∈ B, In64 x
  len : C.length = B.length + 1
  pos : ∀ x ∈ C, 0 ≤ x
  sum : C.sum ≤ 9223372036854775807
  size : B.length ≤ 1024
theorem Fine.tot {B C : List Int} (g : Fine B C) : 0 ≤ C.sum ∧ C.sum ≤ 9223372036854775807 := ⟨sum_nonneg g.pos, g.sum⟩
theorem Fine.crng {B C : List Int} (g : Fine B C) : ∀ x ∈ C, In64 x := by
  intro x hx
  obtain ⟨k, hk, rfl⟩ := List.getElem_of_mem hx
  have h1 := getD_nonneg g.pos k
  have h2 := getD_le_sum g.pos k
  rw [List.getD_eq_getElem?_getD, List.getElem?_eq_getElem hk] at h1 h2
  have := g.sum
  exact ⟨by simp at h1; omega, by simp at h2; omega⟩
abbrev St := Option (List Int × List Int)
/-- What New makes of bounds. -/
def fitsB (B : List Int) : Bool := decide (B.length ≤ 1024) && (List.range (B.length - 1)).all fun i => decide (B.getD i 0 < B.getD (i + 1) 0)
def new (B : List Int) : St := if fitsB B then some (B, List.replicate (B.length + 1) 0) else none
def newE (B : List Int) : Int := if fitsB B then 0 else 2
theorem fitsB_iff (B : List Int) : fitsB B = true ↔ B.length ≤ 1024 ∧ up B := by
  unfold fitsB up
  simp only [Bool.and_eq_true, decide_eq_true_eq, List.all_eq_true, List.mem_range]
  constructor
  · rintro ⟨h1, h2⟩; exact ⟨h1, fun i hi => h2 i (by omega)⟩
  · rintro ⟨h1, h2⟩; exact ⟨h1, fun i hi => h2 i (by omega)⟩
theorem sum_rep (n : Nat) : (List.replicate n (0 : Int)).sum = 0 := by induction n with
  | zero => rfl
  | succ n ih => rw [List.replicate_succ, List.sum_cons, ih]; rfl
theorem good_new {B : List Int} (h : fitsB B = true) (hr : ∀ x ∈ B, In64 x) : Fine B (List.replicate (B.length + 1) 0) := by
  obtain ⟨h1, h2⟩ := (fitsB_iff B).1 h
  exact ⟨h2, hr, by simp, by simp, by rw [sum_rep]; decide, h1⟩
/-- Counting a number so many times. -/
def addE : St → Int → Int → Int
  | none, _, _ => 1
  | some (B, C), x, t => if t < 0 then 2 else if 9223372036854775807 - C.sum < t then 7 else 0
def addS : St → Int → Int → St
  | none, _, _ => none
  | some (B, C), x, t => if t < 0 then some (B, C) else if 9223372036854775807 - C.sum < t then some (B, C) else some (B, C.set (cnt B x) (C.getD (cnt B x) 0 + t))
theorem good_add {B C : List Int} (g : Fine B C) {x t : Int} (h0 : 0 ≤ t) (h1 : t ≤ 9223372036854775807 - C.sum) : Fine B (C.set (cnt B x) (C.getD (cnt B x) 0 + t)) := by
  have hc := cnt_le B x
  have hl := g.len
  refine ⟨g.up, g.rng, by simpa using g.len, fun y hy => ?_, ?_, g.size⟩
  · rcases List.mem_or_eq_of_mem_set hy with hy | rfl
    · exact g.pos y hy
    · have := getD_nonneg g.pos (cnt B x); omega
  · rw [sum_set _ _ _ (by omega)]; omega
def Ok : St → Prop
  | none => True
  | some (B, C) => Fine B C
theorem ok_new {B : List Int} (hr : ∀ x ∈ B, In64 x) : Ok (new B) := by
  unfold new; split
  · exact good_new (by assumption) hr
  · trivial
theorem ok_add {o : St} (h : Ok o) (x t : Int) : Ok (addS o x t) := by
  rcases o with _ | ⟨B, C⟩
  · trivial
  · simp only [addS]
    split
    · exact h
    · split
      · exact h
      · exact good_add h (by omega) (by omega)
def bucket : St → Int → Int
  | none, _ => 0
  | some (B, C), x => cnt B x
def total : St → Int
  | none => 0
  | some (B, C) => C.sum
def counts : St → List Int
  | none => []
  | some (B, C) => C
def bounds : St → List Int
  | none => []
  | some (B, C) => B
end Go.Proofs.Ytpfdoifkimjlbaa.H

/- No program: merging two histograms, as lists. -/
import Derived.Test.YtpfdoifkimjlbaaH
namespace Go.Proofs.Ytpfdoifkimjlbaa.H
open Go.RowKit Go.Proofs.Ytpfdoifkimjlbaa
set_option linter.unusedVariables false
set_option linter.unusedSimpArgs false

/-- The first k counts of C have those of D added. -/
def mix (C D : List Int) (k : Nat) : List Int := (List.range C.length).map fun i => if i < k then C.getD i 0 + D.getD i 0 else C.getD i 0
theorem getD_at {l : List Int} {i : Nat} (h : i < l.length) : l.getD i 0 = l[i] := by rw [List.getD_eq_getElem?_getD, List.getElem?_eq_getElem h]; rfl
theorem mix_len (C D : List Int) (k : Nat) : (mix C D k).length = C.length := by simp [mix]
theorem mix_getD {C D : List Int} {k i : Nat} (h : i < C.length) : (mix C D k).getD i 0 = if i < k then C.getD i 0 + D.getD i 0 else C.getD i 0 := by
  rw [getD_at (by rw [mix_len]; exact h)]
  simp [mix]
theorem mix_zero (C D : List Int) : mix C D 0 = C := by
  apply List.ext_getElem (mix_len _ _ _)
  intro i h1 h2
  rw [← getD_at h1, mix_getD h2, if_neg (by omega), getD_at h2]
theorem mix_succ {C D : List Int} {k : Nat} (h : k < C.length) : mix C D (k + 1) = (mix C D k).set k (C.getD k 0 + D.getD k 0) := by
  apply List.ext_getElem (by simp [mix_len])
  intro i h1 h2
  have hi : i < C.length := by rwa [mix_len] at h1
  rw [← getD_at h1, mix_getD hi, List.getElem_set]
  by_cases e : k = i
  · subst e; rw [if_pos (by omega), if_pos rfl]
  · rw [if_neg e, ← getD_at (by rw [mix_len]; exact hi), mix_getD hi]
    by_cases e2 : i < k
    · rw [if_pos (by omega), if_pos e2]
    · rw [if_neg (by omega), if_neg e2]
theorem mix_at {C D : List Int} {k : Nat} (h : k < C.length) : (mix C D k).getD k 0 = C.getD k 0 := by rw [mix_getD h, if_neg (by omega)]
theorem mix_sum {C D : List Int} (hl : C.length = D.length) : ∀ k, k ≤ C.length → (mix C D k).sum = C.sum + (D.take k).sum := by
  intro k
  induction k with
  | zero => intro _; rw [mix_zero]; simp
  | succ k ih =>
    intro hk
    rw [mix_succ (by omega), sum_set _ _ _ (by rw [mix_len]; omega), mix_at (by omega), ih (by omega), sum_take _ _ (by omega)]; omega
def both (C D : List Int) : List Int := mix C D C.length
theorem both_sum {C D : List Int} (hl : C.length = D.length) : (both C D).sum = C.sum + D.sum := by
  rw [both, mix_sum hl _ (Nat.le_refl _), hl, List.take_length]
theorem mix_pos {C D : List Int} (hC : ∀ x ∈ C, 0 ≤ x) (hD : ∀ x ∈ D, 0 ≤ x) (k : Nat) : ∀ x ∈ mix C D k, 0 ≤ x := by
  intro x hx
  simp only [mix, List.mem_map] at hx
  obtain ⟨i, _, rfl⟩ := hx
  have := getD_nonneg hC i
  have := getD_nonneg hD i
  split <;> omega
def mergeE : St → St → Int
  | none, _ => 1
  | some _, none => 1
  | some (B, C), some (B', D) => if B = B' then (if 9223372036854775807 - C.sum < D.sum then 7 else 0) else 2
def mergeS : St → St → St
  | none, _ => none
  | some s, none => some s
  | some (B, C), some (B', D) => if B = B' then (if 9223372036854775807 - C.sum < D.sum then some (B, C) else some (B, both C D)) else some (B, C)
theorem fine_both {B C D : List Int} (g : Fine B C) (k : Fine B D) (h : D.sum ≤ 9223372036854775807 - C.sum) : Fine B (both C D) := by
  have hl : C.length = D.length := by rw [g.len, k.len]
  exact ⟨g.up, g.rng, by rw [both, mix_len]; exact g.len, mix_pos g.pos k.pos _, by rw [both_sum hl]; omega, g.size⟩
theorem ok_merge {o r : St} (h : Ok o) (k : Ok r) : Ok (mergeS o r) := by
  rcases o with _ | ⟨B, C⟩
  · trivial
  · rcases r with _ | ⟨B', D⟩
    · exact h
    · simp only [mergeS]
      split
      · rename_i e
        subst e
        split
        · exact h
        · exact fine_both h k (by omega)
      · exact h
theorem mix_bd {C D : List Int} (hC : ∀ x ∈ C, 0 ≤ x) (hD : ∀ x ∈ D, 0 ≤ x) (i : Nat) : 0 ≤ C.getD i 0 ∧ 0 ≤ D.getD i 0 ∧ C.getD i 0 ≤ C.sum ∧ D.getD i 0 ≤ D.sum :=
  ⟨getD_nonneg hC i, getD_nonneg hD i, getD_le_sum hC i, getD_le_sum hD i⟩
end Go.Proofs.Ytpfdoifkimjlbaa.H

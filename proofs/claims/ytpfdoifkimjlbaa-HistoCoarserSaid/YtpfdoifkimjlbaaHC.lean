/- No program: without a bound, numbers are counted by the others; the order of numbers. -/
import Derived.Test.YtpfdoifkimjlbaaV
set_option linter.unusedVariables false
set_option linter.unusedSimpArgs false
namespace Go.Proofs.Ytpfdoifkimjlbaa.H
open Go.RowKit Go.Proofs.Ytpfdoifkimjlbaa

theorem cnt_erase {B : List Int} {k : Nat} (h : up B) (h' : up (B.eraseIdx k)) (hk : k < B.length) (x : Int) : cnt (B.eraseIdx k) x = if k < cnt B x then cnt B x - 1 else cnt B x := by
  have hl : (B.eraseIdx k).length = B.length - 1 := by rw [List.length_eraseIdx, if_pos hk]
  have hc := cnt_le B x
  have lo : ∀ i, i < cnt B x → B.getD i 0 ≤ x := fun i hi => cnt_lo h x hi
  have hi : ∀ i, cnt B x ≤ i → i < B.length → x < B.getD i 0 := fun i h1 h2 => cnt_hi h x h1 h2
  split
  · refine cnt_at h' x _ (by omega) (fun i hi' => ?_) (fun hl' => ?_)
    · rw [erase_getD (by omega) hk]
      split
      · exact lo i (by omega)
      · exact lo (i + 1) (by omega)
    · rw [erase_getD (by omega) hk]
      rw [if_neg (by omega)]
      exact hi _ (by omega) (by omega)
  · refine cnt_at h' x _ (by omega) (fun i hi' => ?_) (fun hl' => ?_)
    · rw [erase_getD (by omega) hk, if_pos (by omega)]
      exact lo i hi'
    · rw [erase_getD (by omega) hk]
      split
      · exact hi _ (by omega) (by omega)
      · exact hi _ (by omega) (by omega)
theorem getD_set_eq {l : List Int} {i : Nat} {v : Int} (h : i < l.length) : (l.set i v).getD i 0 = v := by
  simp [List.getD_eq_getElem?_getD, h]
theorem coC_getD {C : List Int} {k i : Nat} (hk : k + 1 < C.length) (hi : i < C.length - 1) : (coC C k).getD i 0 = if i < k then C.getD i 0 else if i = k then C.getD k 0 + C.getD (k + 1) 0 else C.getD (i + 1) 0 := by
  unfold coC
  rw [erase_getD (by rw [List.length_set]; omega) (by rw [List.length_set]; omega)]
  by_cases h1 : i < k
  · rw [if_pos h1, if_pos (by omega), getD_set_ne (by omega)]
  · rw [if_neg h1]
    by_cases h2 : i = k
    · subst h2; rw [if_pos rfl, if_pos (by omega), getD_set_eq (by omega)]
    · rw [if_neg h2, if_neg (by omega), getD_set_ne (by omega)]
theorem coC_add {C : List Int} {k j : Nat} (hk : k + 1 < C.length) (hj : j < C.length) (t : Int) :
    coC (C.set j (C.getD j 0 + t)) k = (coC C k).set (if k < j then j - 1 else j) ((coC C k).getD (if k < j then j - 1 else j) 0 + t) := by
  obtain ⟨j', hj'⟩ : ∃ j', (if k < j then j - 1 else j) = j' := ⟨_, rfl⟩
  rw [hj']
  have hjl : j' < C.length - 1 := by rw [← hj']; split <;> omega
  apply List.ext_getElem
  · rw [List.length_set, coC_len hk, coC_len (by simpa using hk), List.length_set]
  · intro i h1 h2
    have hi : i < C.length - 1 := by rw [List.length_set, coC_len hk] at h2; exact h2
    rw [← getD_at h1, ← getD_at h2, coC_getD (by simpa using hk) (by simpa using hi)]
    have g : ∀ a, (C.set j (C.getD j 0 + t)).getD a 0 = if a = j then C.getD j 0 + t else C.getD a 0 := by
      intro a
      by_cases e : a = j
      · subst e; rw [if_pos rfl, getD_set_eq hj]
      · rw [if_neg e, getD_set_ne (by omega)]
    by_cases e : i = j'
    · subst e
      rw [getD_set_eq (by rw [coC_len hk]; exact hi), coC_getD hk hi]
      simp only [g]
      rcases Nat.lt_or_ge k j with h | h
      · rw [if_pos h] at hj'
        rcases Nat.lt_or_ge (k + 1) j with h3 | h3
        · have n1 : ¬ i < k := by omega
          have n2 : ¬ i = k := by omega
          have n3 : i + 1 = j := by omega
          simp only [n1, n2, n3, if_true, if_false]
        · rw [if_neg (by omega), if_pos (by omega), if_neg (by omega), if_pos (by omega), if_neg (by omega), if_pos (by omega), show k + 1 = j by omega]; omega
      · rw [if_neg (by omega)] at hj'
        subst hj'
        rcases Nat.lt_or_ge j k with h3 | h3
        · rw [if_pos h3, if_pos rfl, if_pos h3]
        · rw [if_neg (by omega), if_pos (by omega), if_pos (by omega), if_neg (by omega), if_neg (by omega), if_pos (by omega), show k = j by omega]; omega
    · rw [getD_set_ne (fun h => e h.symm), coC_getD hk hi]
      simp only [g]
      rcases Nat.lt_or_ge k j with h | h
      · rw [if_pos h] at hj'
        by_cases h1 : i < k
        · rw [if_pos h1, if_pos h1, if_neg (by omega)]
        · rw [if_neg h1, if_neg h1]
          by_cases h4 : i = k
          · rw [if_pos h4, if_pos h4, if_neg (by omega), if_neg (by omega)]
          · rw [if_neg h4, if_neg h4, if_neg (by omega)]
      · rw [if_neg (by omega)] at hj'
        subst hj'
        by_cases h1 : i < k
        · rw [if_pos h1, if_pos h1, if_neg e]
        · rw [if_neg h1, if_neg h1]
          by_cases h4 : i = k
          · rw [if_pos h4, if_pos h4, if_neg (by omega), if_neg (by omega)]
          · rw [if_neg h4, if_neg h4, if_neg (by omega)]
theorem coC_zero (n k : Nat) (hk : k < n) : coC (List.replicate (n + 1) 0) k = List.replicate n 0 := by
  apply List.eq_replicate_iff.2
  refine ⟨by rw [coC_len (by simpa using hk)]; simp, fun x hx => ?_⟩
  have hx := List.mem_of_mem_eraseIdx hx
  rcases List.mem_or_eq_of_mem_set hx with hx | rfl
  · exact (List.mem_replicate.1 hx).2
  · have : ∀ i, (List.replicate (n + 1) (0 : Int)).getD i 0 = 0 := by
      intro i
      rw [List.getD_eq_getElem?_getD, List.getElem?_replicate]; split <;> rfl
    rw [this, this]; rfl
theorem co_step {B C : List Int} (g : Fine B C) {k : Nat} (hk : k < B.length) (x t : Int) :
    addE (some (B.eraseIdx k, coC C k)) x t = addE (some (B, C)) x t ∧ ∃ C', addS (some (B, C)) x t = some (B, C') ∧ addS (some (B.eraseIdx k, coC C k)) x t = some (B.eraseIdx k, coC C' k) := by
  have hl := g.len
  have hs := coC_sum (C := C) (k := k) (by omega)
  have hc := cnt_le B x
  refine ⟨by simp only [addE, hs], ?_⟩
  simp only [addS, hs]
  split
  · exact ⟨C, rfl, rfl⟩
  · split
    · exact ⟨C, rfl, rfl⟩
    · refine ⟨_, rfl, ?_⟩
      rw [cnt_erase g.up (fine_co g hk).up hk x, coC_add (by omega) (by omega)]
theorem fits_erase {B : List Int} (h : fitsB B = true) (hr : ∀ x ∈ B, In64 x) {k : Nat} (hk : k < B.length) : fitsB (B.eraseIdx k) = true := by
  have g := good_new h hr
  have := fine_co g hk
  exact (fitsB_iff _).2 ⟨this.size, this.up⟩
end Go.Proofs.Ytpfdoifkimjlbaa.H

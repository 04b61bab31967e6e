/- No program: what is counted does not ask in which order. -/
import Derived.Test.YtpfdoifkimjlbaaH2
set_option linter.unusedVariables false
set_option linter.unusedSimpArgs false
namespace Go.Proofs.Ytpfdoifkimjlbaa.H
open Go.RowKit Go.Proofs.Ytpfdoifkimjlbaa

/-- The sum of the first k. -/
def sumTo (g : Nat → Int) : Nat → Int
  | 0 => 0
  | k + 1 => sumTo g k + g k
theorem sumTo_add (g h : Nat → Int) (k : Nat) : sumTo (fun i => g i + h i) k = sumTo g k + sumTo h k := by
  induction k with
  | zero => rfl
  | succ k ih => simp only [sumTo, ih]; omega
theorem sumTo_congr {g h : Nat → Int} {k : Nat} (e : ∀ i, i < k → g i = h i) : sumTo g k = sumTo h k := by
  induction k with
  | zero => rfl
  | succ k ih => simp only [sumTo]; rw [ih (fun i hi => e i (by omega)), e k (by omega)]
theorem sumTo_front (g : Nat → Int) (k : Nat) : sumTo g (k + 1) = g 0 + sumTo (fun i => g (i + 1)) k := by
  induction k with
  | zero => simp [sumTo]
  | succ k ih => rw [sumTo, ih]; simp only [sumTo]; omega
theorem sumTo_rev (g : Nat → Int) (n : Nat) : sumTo (fun i => g (n - 1 - i)) n = sumTo g n := by
  induction n with
  | zero => rfl
  | succ n ih =>
    rw [sumTo_front, sumTo, ← ih]
    have : sumTo (fun i => g (n + 1 - 1 - (i + 1))) n = sumTo (fun i => g (n - 1 - i)) n := sumTo_congr fun i _ => by
      show g _ = g _
      congr 1; omega
    rw [this]; simp only [Nat.add_sub_cancel, Nat.sub_zero]; omega
/-- What one step gives to bucket j. -/
def val (B : List Int) (x t : Int) (j : Nat) : Int := if t < 0 then 0 else if cnt B x = j then t else 0
/-- The counts are the sums of what the first k steps gave. -/
def Tal (B C : List Int) (G : Nat → Nat → Int) (k : Nat) : Prop := ∀ j, j < B.length + 1 → C.getD j 0 = sumTo (fun i => G i j) k
theorem tal_zero (B : List Int) (G : Nat → Nat → Int) : Tal B (List.replicate (B.length + 1) 0) G 0 := by
  intro j hj
  simp only [sumTo]
  rw [List.getD_eq_getElem?_getD, List.getElem?_replicate]; split <;> rfl
theorem tal_add {B C : List Int} {G : Nat → Nat → Int} {k : Nat} {x t K : Int} (g : Fine B C) (hT : Tal B C G k) (hs : C.sum ≤ K) (ht : t ≤ 1099511627776) (hK : K ≤ 1000000000000000) (hG : ∀ j, G k j = val B x t j) :
    ∃ C', addS (some (B, C)) x t = some (B, C') ∧ C'.sum ≤ K + 1099511627776 ∧ Tal B C' G (k + 1) := by
  have gt := g.tot
  by_cases h0 : t < 0
  · refine ⟨C, by simp [addS, h0], by omega, fun j hj => ?_⟩
    rw [hT j hj, sumTo, hG, val, if_pos h0]; omega
  · have hc := cnt_le B x
    have hl := g.len
    refine ⟨_, by simp only [addS, if_neg h0]; rw [if_neg (by omega)], ?_, fun j hj => ?_⟩
    · rw [sum_set _ _ _ (by omega)]; omega
    · rw [sumTo, hG, val, if_neg h0, ← hT j hj]
      by_cases e : cnt B x = j
      · subst e
        rw [if_pos rfl]; simp [List.getD_eq_getElem?_getD, show cnt B x < C.length by omega]
      · rw [if_neg e]; simp [List.getD_eq_getElem?_getD, List.getElem?_set, e]
theorem tal_skip {B C : List Int} {G : Nat → Nat → Int} {k : Nat} (hT : Tal B C G k) (hG : ∀ j, G k j = 0) : Tal B C G (k + 1) := by
  intro j hj
  rw [hT j hj]; simp only [sumTo, hG]; omega
theorem tal_eq {B C D : List Int} {G G' : Nat → Nat → Int} {n : Nat} (hC : C.length = B.length + 1) (hD : D.length = B.length + 1) (tC : Tal B C G n) (tD : Tal B D G' n)
    (h : ∀ j, sumTo (fun i => G i j) n = sumTo (fun i => G' i j) n) : C = D := by
  apply List.ext_getElem (by omega)
  intro i h1 h2
  have := tC i (by omega)
  have := tD i (by omega)
  have := h i
  rw [← getD_at h1, ← getD_at h2]; omega
theorem tal_both {B C D : List Int} {G G' : Nat → Nat → Int} {n : Nat} (hC : C.length = B.length + 1) (tC : Tal B C G n) (tD : Tal B D G' n) : Tal B (both C D) (fun i j => G i j + G' i j) n := by
  intro j hj
  rw [both, mix_getD (by omega), if_pos (by omega), tC j hj, tD j hj, sumTo_add]
/-- The steps as the law counts them: in their order, from the end, the first so many, the others. -/
def vA (B : List Int) (f : Nat → Nat → Int) (i j : Nat) : Int := val B (f i 0) (min (f i 1) 1099511627776) j
def vB (B : List Int) (f : Nat → Nat → Int) (n i j : Nat) : Int := vA B f (n - 1 - i) j
def vC (B : List Int) (f : Nat → Nat → Int) (c : Int) (i j : Nat) : Int := if (i : Int) < c then vA B f i j else 0
def vD (B : List Int) (f : Nat → Nat → Int) (c : Int) (i j : Nat) : Int := if (i : Int) < c then 0 else vA B f i j
theorem back {B C D : List Int} {f : Nat → Nat → Int} {n : Nat} (hC : C.length = B.length + 1) (hD : D.length = B.length + 1) (tC : Tal B C (vA B f) n) (tD : Tal B D (vB B f n) n) : C = D :=
  tal_eq hC hD tC tD fun j => by
    have := sumTo_rev (fun i => vA B f i j) n
    simp only [vB]; exact this.symm
theorem parted {B C D E : List Int} {f : Nat → Nat → Int} {n : Nat} {c : Int} (hC : C.length = B.length + 1) (hD : D.length = B.length + 1) (tC : Tal B C (vA B f) n) (tD : Tal B D (vC B f c) n) (tE : Tal B E (vD B f c) n) : C = both D E :=
  tal_eq hC (by rw [both, mix_len]; exact hD) tC (tal_both hD tD tE) fun j => by
    refine sumTo_congr fun i _ => ?_
    simp only [vC, vD]; split <;> omega

end Go.Proofs.Ytpfdoifkimjlbaa.H

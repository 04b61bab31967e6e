/- Fractions in lowest terms and their order: plain arithmetic. No program is walked. -/
import Derived.Test.YtgcflohlmbdoiaaLW
namespace Go.Proofs.Ytgcflohlmbdoiaa
open Go.RowKit M
set_option linter.unusedVariables false
set_option linter.unusedSimpArgs false

theorem mg_abs (n : Int) : mg n = (n.natAbs : Int) := by unfold mg; split <;> omega

theorem red_facts (n d : Int) (hd : 1 ≤ d) : ∃ g : Int, 1 ≤ g ∧ rN n d * g = n ∧ rD n d * g = d ∧ Nat.Coprime (rN n d).natAbs (rD n d).natAbs := by
  have hb : 0 < d.natAbs := by omega
  have hg : 0 < Nat.gcd n.natAbs d.natAbs := Nat.gcd_pos_of_pos_right _ hb
  have e : gd (mg n) (mg d) = (Nat.gcd n.natAbs d.natAbs : Int) := by
    rw [mg_abs, mg_abs]
    show ((Int.gcd (n.natAbs : Int) (d.natAbs : Int) : Nat) : Int) = _
    rfl
  have eD : rD n d = ((d.natAbs / Nat.gcd n.natAbs d.natAbs : Nat) : Int) := by
    unfold rD; rw [e, mg_abs]; rfl
  have eN : rN n d = sg (decide (n < 0)) ((n.natAbs / Nat.gcd n.natAbs d.natAbs : Nat) : Int) := by
    have hdn : decide (d < 0) = false := decide_eq_false (by omega)
    unfold rN; rw [e, mg_abs n, hdn]
    cases decide (n < 0) <;> rfl
  have m1 := Nat.div_mul_cancel (Nat.gcd_dvd_left n.natAbs d.natAbs)
  have m2 := Nat.div_mul_cancel (Nat.gcd_dvd_right n.natAbs d.natAbs)
  have cp := Nat.coprime_div_gcd_div_gcd hg
  rw [eD, eN]
  generalize n.natAbs / Nat.gcd n.natAbs d.natAbs = a at *
  generalize d.natAbs / Nat.gcd n.natAbs d.natAbs = b at *
  generalize Nat.gcd n.natAbs d.natAbs = g at *
  refine ⟨(g : Int), by omega, ?_, ?_, ?_⟩
  · by_cases hn : n < 0
    · rw [decide_eq_true hn]
      show -(a : Int) * (g : Int) = n
      rw [Int.neg_mul, ← Int.natCast_mul, m1]; omega
    · rw [decide_eq_false hn]
      show (a : Int) * (g : Int) = n
      rw [← Int.natCast_mul, m1]; omega
  · rw [← Int.natCast_mul, m2]; omega
  · have : (sg (decide (n < 0)) (a : Int)).natAbs = a := by unfold sg; split <;> omega
    rw [this, Int.natAbs_natCast]; exact cp

theorem red_bounds {n d p q g : Int} (hg : 1 ≤ g) (hp : p * g = n) (hq : q * g = d) (hd : 1 ≤ d) (h0 : -9223372036854775808 ≤ n) (h1 : n ≤ 9223372036854775807) (h2 : d ≤ 9223372036854775807) :
    1 ≤ q ∧ q ≤ 9223372036854775807 ∧ -9223372036854775808 ≤ p ∧ p ≤ 9223372036854775807 := by
  have q0 : 1 ≤ q := by
    rcases Int.lt_or_le q 1 with h | h
    · have := Int.mul_le_mul_of_nonneg_right (show q ≤ 0 by omega) (show (0 : Int) ≤ g by omega)
      omega
    · exact h
  have q1 := Int.mul_le_mul_of_nonneg_left hg (show 0 ≤ q by omega)
  have hp2 : -9223372036854775808 ≤ p ∧ p ≤ 9223372036854775807 := by
    rcases Int.lt_or_le p 0 with h | h
    · have := Int.mul_le_mul_of_nonneg_left hg (show 0 ≤ -p by omega)
      simp only [Int.neg_mul, Int.mul_one] at this
      omega
    · have := Int.mul_le_mul_of_nonneg_left hg h
      omega
  omega

theorem rfit_pos {n d : Int} (hd : 1 ≤ d) (h0 : -9223372036854775808 ≤ n) (h1 : n ≤ 9223372036854775807) (h2 : d ≤ 9223372036854775807) : rfit n d = true := by
  obtain ⟨g, hg, hp, hq, -⟩ := red_facts n d hd
  have := red_bounds hg hp hq hd h0 h1 h2
  exact decide_eq_true (by omega)

/-- No number above 1 divides both parts. -/
theorem no_divisor {p q k : Int} (h : Nat.Coprime p.natAbs q.natAbs) (hk : 2 ≤ k) (h1 : p.tmod k = 0) (h2 : q.tmod k = 0) : False := by
  have d1 := Int.natAbs_dvd_natAbs.2 (Int.dvd_of_tmod_eq_zero h1)
  have d2 := Int.natAbs_dvd_natAbs.2 (Int.dvd_of_tmod_eq_zero h2)
  have := Nat.dvd_gcd d1 d2
  rw [h] at this
  have := Nat.le_of_dvd (by decide) this
  omega

/-- Two fractions in lowest terms that are equal are the same. -/
theorem lowest_same {p q r s : Int} (h : Nat.Coprime p.natAbs q.natAbs) (k : Nat.Coprime r.natAbs s.natAbs) (hq : 1 ≤ q) (hs : 1 ≤ s) (e : p * s = r * q) : p = r ∧ q = s := by
  have en : p.natAbs * s.natAbs = r.natAbs * q.natAbs := by rw [← Int.natAbs_mul, ← Int.natAbs_mul, e]
  have d1 : q.natAbs ∣ s.natAbs := h.symm.dvd_of_dvd_mul_left (by rw [en]; exact Nat.dvd_mul_left _ _)
  have d2 : s.natAbs ∣ q.natAbs := k.symm.dvd_of_dvd_mul_left (by rw [← en]; exact Nat.dvd_mul_left _ _)
  have eqs : q.natAbs = s.natAbs := Nat.dvd_antisymm d1 d2
  obtain rfl : q = s := by omega
  refine ⟨?_, rfl⟩
  exact Int.eq_of_mul_eq_mul_right (by omega) e

theorem sn_zero_iff (x : Int) : sn x = 0 ↔ x = 0 := by unfold sn; split <;> (try split) <;> omega
theorem sn_neg' (x : Int) : sn (-x) = -sn x := by unfold sn; split <;> (try split) <;> (try split) <;> (try split) <;> omega
theorem sn_bd (x : Int) : -1 ≤ sn x ∧ sn x ≤ 1 := by unfold sn; split <;> (try split) <;> omega
theorem sn_le (x : Int) : sn x ≤ 0 ↔ x ≤ 0 := by unfold sn; split <;> (try split) <;> omega
theorem sn_ge (x : Int) : 0 ≤ sn x ↔ 0 ≤ x := by unfold sn; split <;> (try split) <;> omega

theorem cmp_own {n d p q g : Int} (hp : p * g = n) (hq : q * g = d) : n * q - p * d = 0 := by
  subst hp hq
  rw [Int.mul_assoc, Int.mul_comm g q]; omega

theorem cmp_eq2 {n d m c p q r s g k : Int} (hg : 1 ≤ g) (hk : 1 ≤ k) (hp : p * g = n) (hq : q * g = d) (hr : r * k = m) (hs : s * k = c) (cq : 1 ≤ q) (cs : 1 ≤ s)
    (h1 : Nat.Coprime p.natAbs q.natAbs) (h2 : Nat.Coprime r.natAbs s.natAbs) : n * c - m * d = 0 ↔ p = r ∧ q = s := by
  have e : n * c - m * d = (p * s - r * q) * (g * k) := by
    subst hp hq hr hs
    rw [Int.sub_mul]
    congr 1 <;> simp only [Int.mul_assoc, Int.mul_left_comm, Int.mul_comm]
  constructor
  · intro h
    rw [e] at h
    rcases Int.mul_eq_zero.1 h with h | h
    · exact lowest_same h1 h2 cq cs (by omega)
    · rcases Int.mul_eq_zero.1 h with h | h <;> omega
  · rintro ⟨rfl, rfl⟩
    rw [e, Int.sub_self, Int.zero_mul]

/-- The order of fractions joins. -/
theorem cmp_trans {a b c d e f : Int} (hb : 1 ≤ b) (hd : 1 ≤ d) (hf : 1 ≤ f) (h1 : a * d - c * b ≤ 0) (h2 : c * f - e * d ≤ 0) : a * f - e * b ≤ 0 := by
  have x1 := Int.mul_le_mul_of_nonneg_right (show a * d ≤ c * b by omega) (show 0 ≤ f by omega)
  have x2 := Int.mul_le_mul_of_nonneg_right (show c * f ≤ e * d by omega) (show 0 ≤ b by omega)
  have x3 : c * b * f = c * f * b := by rw [Int.mul_assoc, Int.mul_comm b f, Int.mul_assoc]
  have x4 : a * f * d ≤ e * b * d := by
    rw [Int.mul_right_comm a f d, Int.mul_right_comm e b d]; omega
  have := Int.le_of_mul_le_mul_right x4 (by omega)
  omega
theorem cmp_trans' {a b c d e f : Int} (hb : 1 ≤ b) (hd : 1 ≤ d) (hf : 1 ≤ f) (h1 : 0 ≤ a * d - c * b) (h2 : 0 ≤ c * f - e * d) : 0 ≤ a * f - e * b := by
  have := cmp_trans (a := e) (b := f) (c := c) (d := d) (e := a) (f := b) hf hd hb (by omega) (by omega)
  omega
end Go.Proofs.Ytgcflohlmbdoiaa

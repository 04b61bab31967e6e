/- PLAIN ARITHMETIC of bits.Div64 (a digit of the quotient is guessed and corrected) and of quotients rounded down. -/
import Derived.Test.YtpfdoifkimjlbaaM
import Derived.Laws.BitsAllLaws
import Derived.Lib.ItoaNum
namespace Go.Proofs.Ytpfdoifkimjlbaa.M
open Go.RowKit
set_option linter.unusedVariables false
set_option linter.unusedSimpArgs false

/-! ### one digit -/
section
variable {u c a b q r : Int}
/-- The first guess is not too small. -/
theorem dig_first (hu : 0 ≤ u) (hc0 : 0 ≤ c) (hc : c < 4294967296) (ha0 : 2147483648 ≤ a) (ha : a < 4294967296) (hb0 : 0 ≤ b) (hb : b < 4294967296) (hlt : u < a * 4294967296 + b) :
    (u * 4294967296 + c) / (a * 4294967296 + b) ≤ u / a ∧ u / a ≤ 4294967297 ∧ 0 ≤ u - u / a * a ∧ u - u / a * a < a ∧ 0 ≤ u / a := by
  have hD : 0 < a * 4294967296 + b := by omega
  have ha' : 0 < a := by omega
  have e1 := Int.mul_ediv_add_emod u a
  have e2 := Int.emod_nonneg u (show a ≠ 0 by omega)
  have e3 := Int.emod_lt_of_pos u ha'
  have e4 := Int.mul_comm a (u / a)
  refine ⟨?_, ?_, by omega, by omega, Int.ediv_nonneg hu (by omega)⟩
  · refine (Int.le_ediv_iff_mul_le ha').2 ?_
    have f1 := Int.mul_ediv_add_emod (u * 4294967296 + c) (a * 4294967296 + b)
    have f2 := Int.emod_nonneg (u * 4294967296 + c) (show a * 4294967296 + b ≠ 0 by omega)
    have f3 : 0 ≤ (u * 4294967296 + c) / (a * 4294967296 + b) := Int.ediv_nonneg (by omega) (by omega)
    generalize (u * 4294967296 + c) / (a * 4294967296 + b) = Q at *
    generalize (u * 4294967296 + c) % (a * 4294967296 + b) = S at *
    rw [Int.add_mul, Int.mul_right_comm] at f1
    have g1 := Int.mul_nonneg hb0 f3
    have g2 := Int.mul_comm a Q
    generalize a * Q = m at *
    generalize b * Q = k at *
    omega
  · have : u / a < 4294967298 := Int.ediv_lt_of_lt_mul ha' (by omega)
    omega

theorem dig_le (hc0 : 0 ≤ c) (h : q * a + r = u) (hD : 0 < a * 4294967296 + b) (hq : q * b ≤ 4294967296 * r + c) : q ≤ (u * 4294967296 + c) / (a * 4294967296 + b) := by
  refine (Int.le_ediv_iff_mul_le hD).2 ?_
  rw [Int.mul_add, ← Int.mul_assoc]
  generalize q * a = m at *
  generalize q * b = k at *
  omega

/-- The test fails: the digit is right. -/
theorem dig_done (hc0 : 0 ≤ c) (h : q * a + r = u) (hD : 0 < a * 4294967296 + b) (hq : q * b ≤ 4294967296 * r + c) (hQ : (u * 4294967296 + c) / (a * 4294967296 + b) ≤ q) :
    q = (u * 4294967296 + c) / (a * 4294967296 + b) := Int.le_antisymm (dig_le hc0 h hD hq) hQ

/-- The test holds: the digit is smaller. -/
theorem dig_more (hu : 0 ≤ u) (hc0 : 0 ≤ c) (hc : c < 4294967296) (h : q * a + r = u) (hD : 0 < a * 4294967296 + b) (hlt : u < a * 4294967296 + b) (ht : 4294967296 ≤ q ∨ 4294967296 * r + c < q * b) :
    (u * 4294967296 + c) / (a * 4294967296 + b) ≤ q - 1 := by
  have : (u * 4294967296 + c) / (a * 4294967296 + b) < q := by
    rcases ht with ht | ht
    · refine Int.lt_of_lt_of_le (Int.ediv_lt_of_lt_mul hD ?_) ht
      omega
    · refine Int.ediv_lt_of_lt_mul hD ?_
      rw [Int.mul_add, ← Int.mul_assoc]
      generalize q * a = m at *
      generalize q * b = k at *
      omega
  omega

/-- The loop is left early: the digit is right. -/
theorem dig_break (hc0 : 0 ≤ c) (hb0 : 0 ≤ b) (hb : b < 4294967296) (h : q * a + r = u) (hD : 0 < a * 4294967296 + b) (hr : 4294967296 ≤ r) (hq0 : 0 ≤ q) (hq : q ≤ 4294967296)
    (hQ : (u * 4294967296 + c) / (a * 4294967296 + b) ≤ q) : q = (u * 4294967296 + c) / (a * 4294967296 + b) := by
  refine dig_done hc0 h hD ?_ hQ
  have := mul_bd hq0 hq hb0 (show b ≤ 4294967295 by omega)
  omega

/-- What is left of the dividend. -/
theorem dig_rest (hD : 0 < a * 4294967296 + b) (hD2 : a * 4294967296 + b < 18446744073709551616) (hu : 0 ≤ u) (hc0 : 0 ≤ c) (hlt : u < a * 4294967296 + b) :
    (IntKind.u64.wrap (IntKind.u64.wrap (IntKind.u64.wrap (u * 4294967296) + c) - IntKind.u64.wrap ((u * 4294967296 + c) / (a * 4294967296 + b) * (a * 4294967296 + b)))) = (u * 4294967296 + c) % (a * 4294967296 + b) := by
  have e1 := Int.mul_ediv_add_emod (u * 4294967296 + c) (a * 4294967296 + b)
  have e2 := Int.emod_nonneg (u * 4294967296 + c) (show a * 4294967296 + b ≠ 0 by omega)
  have e3 := Int.emod_lt_of_pos (u * 4294967296 + c) hD
  have e4 := Int.mul_comm (a * 4294967296 + b) ((u * 4294967296 + c) / (a * 4294967296 + b))
  generalize (u * 4294967296 + c) / (a * 4294967296 + b) * (a * 4294967296 + b) = m at *
  generalize (u * 4294967296 + c) % (a * 4294967296 + b) = t at *
  simp only [IntKind.wrap_u64]
  omega
end

/-- Two digits are the quotient. -/
theorem dig_two (u c e D : Int) (hD : 0 < D) (he0 : 0 ≤ e) :
    (u * 18446744073709551616 + (c * 4294967296 + e)) / D = (u * 4294967296 + c) / D * 4294967296 + ((u * 4294967296 + c) % D * 4294967296 + e) / D ∧
    (u * 18446744073709551616 + (c * 4294967296 + e)) % D = ((u * 4294967296 + c) % D * 4294967296 + e) % D := by
  have e1 := Int.mul_ediv_add_emod (u * 4294967296 + c) D
  have e0 : u * 18446744073709551616 + (c * 4294967296 + e) = ((u * 4294967296 + c) % D * 4294967296 + e) + D * ((u * 4294967296 + c) / D * 4294967296) := by
    have : D * ((u * 4294967296 + c) / D * 4294967296) = D * ((u * 4294967296 + c) / D) * 4294967296 := (Int.mul_assoc _ _ _).symm
    rw [this]
    generalize D * ((u * 4294967296 + c) / D) = m at *
    omega
  rw [e0]
  constructor
  · rw [Int.add_mul_ediv_left _ _ (by omega)]; omega
  · rw [Int.add_mul_emod_self_left]

/-! ### the shift -/
theorem bitLen_pow (y : Int) (h0 : 0 < y) (h1 : y ≤ 18446744073709551615) (s : Nat) (hs : (64 : Int) - (Lib.bitLen y.toNat : Int) = s) :
    s ≤ 63 ∧ 9223372036854775808 ≤ y * 2 ^ s ∧ y * 2 ^ s ≤ 18446744073709551615 ∧ (2 : Int) ^ s * 2 ^ (64 - s) = 18446744073709551616 ∧ (0 : Int) < 2 ^ s ∧ (0 : Int) < 2 ^ (64 - s) := by
  obtain ⟨b1, b2, b3⟩ := Lib.bitLenAux_bounds 64 y.toNat (by omega) (by omega)
  change 1 ≤ Lib.bitLen y.toNat at b1
  change 2 ^ (Lib.bitLen y.toNat - 1) ≤ y.toNat at b2
  change y.toNat < 2 ^ Lib.bitLen y.toNat at b3
  generalize Lib.bitLen y.toNat = n at *
  obtain ⟨m, rfl⟩ := Int.eq_ofNat_of_zero_le (Int.le_of_lt h0)
  simp only [Int.toNat_natCast] at *
  have hn : n = 64 - s := by omega
  have hs63 : s ≤ 63 := by omega
  have p1 : (2 : Nat) ^ s * 2 ^ (64 - s) = 18446744073709551616 := by rw [← Nat.pow_add, show s + (64 - s) = 64 from by omega]
  have p2 : (2 : Nat) ^ s * 2 ^ (64 - s - 1) = 9223372036854775808 := by rw [← Nat.pow_add, show s + (64 - s - 1) = 63 from by omega]
  have q0 : 0 < (2 : Nat) ^ s := Nat.pow_pos (by omega)
  have q1 : 0 < (2 : Nat) ^ (64 - s) := Nat.pow_pos (by omega)
  rw [hn] at b2 b3
  have l1 : 2 ^ s * 2 ^ (64 - s - 1) ≤ 2 ^ s * m := Nat.mul_le_mul_left _ b2
  have l2 : 2 ^ s * m < 2 ^ s * 2 ^ (64 - s) := Nat.mul_lt_mul_of_pos_left b3 q0
  rw [p2] at l1
  rw [p1] at l2
  have c1 : ((2 ^ s : Nat) : Int) = (2 : Int) ^ s := by simp
  have c2 : ((2 ^ (64 - s) : Nat) : Int) = (2 : Int) ^ (64 - s) := by simp
  rw [← c1, ← c2]
  have l3 : ((2 ^ s * m : Nat) : Int) = ((2 ^ s : Nat) : Int) * (m : Int) := Int.natCast_mul _ _
  have l4 : ((2 ^ s * 2 ^ (64 - s) : Nat) : Int) = ((2 ^ s : Nat) : Int) * ((2 ^ (64 - s) : Nat) : Int) := Int.natCast_mul _ _
  rw [Int.mul_comm (m : Int)]
  rw [← l3, ← l4, p1]
  omega

/-- The normalized dividend. -/
theorem norm_parts (hi lo y P R : Int) (s : Nat) (h0 : 0 ≤ hi) (h1 : hi < y) (h2 : 0 ≤ lo) (h3 : lo ≤ 18446744073709551615) (hs : s ≤ 63) (hP : (2 : Int) ^ s = P) (hPR : P * R = 18446744073709551616) (hp : 0 < P) (hr : 0 < R) (hD : y * P ≤ 18446744073709551615) :
    0 ≤ hi * P ∧ hi * P + lo / R < y * P ∧ 0 ≤ lo / R ∧ bits .or .u64 (hi * P) (lo / R) = hi * P + lo / R ∧
    (hi * P + lo / R) * 18446744073709551616 + IntKind.u64.wrap (lo * P) = (hi * 18446744073709551616 + lo) * P := by
  have a1 : 0 ≤ hi * P := Int.mul_nonneg h0 (by omega)
  have a2 : (hi + 1) * P ≤ y * P := Int.mul_le_mul_of_nonneg_right (by omega) (by omega)
  rw [Int.add_mul, Int.one_mul] at a2
  have e1 := Int.mul_ediv_add_emod lo R
  have e2 := Int.emod_nonneg lo (show R ≠ 0 by omega)
  have e3 := Int.emod_lt_of_pos lo hr
  have t0 : 0 ≤ lo / R := Int.ediv_nonneg h2 (by omega)
  have t1 : lo / R < P := Int.ediv_lt_of_lt_mul hr (by omega)
  have hor : bits .or .u64 (hi * P) (lo / R) = hi * P + lo / R := by
    rw [u64_or _ _ a1 (by omega) t0 (by omega)]
    rw [nat_join s]
    · omega
    · have : ((hi * P).toNat : Int) % ((2 ^ s : Nat) : Int) = 0 := by
        rw [Int.toNat_of_nonneg a1, show ((2 ^ s : Nat) : Int) = P by rw [← hP]; simp]
        exact Int.mul_emod_left _ _
      omega
    · have : ((2 ^ s : Nat) : Int) = P := by rw [← hP]; simp
      omega
  refine ⟨a1, by omega, t0, hor, ?_⟩
  have f1 : lo * P = lo / R * 18446744073709551616 + lo % R * P := by
    rw [← hPR]
    have : lo / R * (P * R) = R * (lo / R) * P := by rw [Int.mul_comm P R, ← Int.mul_assoc, Int.mul_comm (lo / R) R]
    rw [this, ← Int.add_mul, e1]
  have g1 : 0 ≤ lo % R * P := Int.mul_nonneg e2 (by omega)
  have g2 : lo % R * P < 18446744073709551616 := by
    rw [← hPR, Int.mul_comm P R]
    exact Int.mul_lt_mul_of_pos_right e3 hp
  have f2 : IntKind.u64.wrap (lo * P) = lo % R * P := by rw [IntKind.wrap_u64]; omega
  rw [f2, Int.add_mul, Int.add_mul]
  have f3 : hi * P * 18446744073709551616 = hi * 18446744073709551616 * P := Int.mul_right_comm _ _ _
  omega

theorem unscale (M y P : Int) (hp : 0 < P) : (M * P) / (y * P) = M / y ∧ (M * P) % (y * P) / P = M % y := by
  constructor
  · exact Int.mul_ediv_mul_of_pos_left _ _ hp
  · rw [Int.emod_def, Int.mul_ediv_mul_of_pos_left _ _ hp, Int.mul_right_comm, ← Int.sub_mul, ← Int.emod_def]
    exact Int.mul_ediv_cancel _ (by omega)

/-! ### quotients rounded down, by the magnitude -/
theorem md_parts (m c : Int) (hm : 0 ≤ m) (hc : 0 < c) :
    m / 18446744073709551616 * 18446744073709551616 + m % 18446744073709551616 = m := by omega

theorem md_high {m c x : Int} {n : Bool} (hx : sg n m = x) (hm : 0 ≤ m) (hc : 0 < c) (h : c ≤ m / 18446744073709551616) : x / c < -9223372036854775808 ∨ 9223372036854775807 < x / c := by
  have h1 : c * 18446744073709551616 ≤ m := by omega
  subst hx
  unfold sg
  split
  · left
    have : -m / c ≤ -18446744073709551616 := by
      have : -m / c < -18446744073709551615 := by
        refine Int.ediv_lt_of_lt_mul hc ?_
        omega
      omega
    omega
  · right
    have : 18446744073709551616 ≤ m / c := (Int.le_ediv_iff_mul_le hc).2 (by omega)
    omega

theorem md_pos {m c : Int} : sg false m / c = m / c := rfl
theorem md_neg0 {m c : Int} (hc : 0 < c) (h : m % c = 0) : sg true m / c = -(m / c) := by
  show -m / c = _
  have e := Int.mul_ediv_add_emod m c
  have e2 : m = c * (m / c) := by omega
  generalize m / c = q at *
  subst e2
  rw [← Int.mul_neg, Int.mul_ediv_cancel_left _ (by omega)]
theorem md_neg1 {m c : Int} (hc : 0 < c) (h : 0 < m % c) : sg true m / c = -(m / c + 1) := by
  show -m / c = _
  have e := Int.mul_ediv_add_emod m c
  have l := Int.emod_lt_of_pos m hc
  generalize hq : m / c = q at *
  generalize m % c = r at *
  have e3 : -m = (c - r) + c * (-(q + 1)) := by rw [Int.mul_neg, Int.mul_add, Int.mul_one]; omega
  rw [e3, Int.add_mul_ediv_left _ _ (by omega), Int.ediv_eq_zero_of_lt (by omega) (by omega)]
  omega

end Go.Proofs.Ytpfdoifkimjlbaa.M

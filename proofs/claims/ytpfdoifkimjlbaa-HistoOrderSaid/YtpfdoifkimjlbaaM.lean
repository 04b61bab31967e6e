/- PLAIN ARITHMETIC for the statements on package checked: no program in sight. Words: 'I64 a' (a fits), 'mg a' (magnitude), 'vo x', 'eo x' (a result that fits or not), digits in base 2^32. -/
import Derived.RowKit
import Derived.Laws.Entries
import Derived.Laws.BitsLemmas
namespace Go.Proofs.Ytpfdoifkimjlbaa.M
open Go.RowKit
set_option linter.unusedVariables false
set_option linter.unusedSimpArgs false

def I64 (a : Int) : Prop := -9223372036854775808 ≤ a ∧ a ≤ 9223372036854775807
/-- The magnitude of a number. -/
def mg (a : Int) : Int := if a < 0 then -a else a
/-- The value and the error of a result: the number if it fits, else 0 and 7. -/
def vo (x : Int) : Int := if -9223372036854775808 ≤ x ∧ x ≤ 9223372036854775807 then x else 0
def eo (x : Int) : Int := if -9223372036854775808 ≤ x ∧ x ≤ 9223372036854775807 then 0 else 7
/-- The number with a sign and a magnitude. -/
def sg (n : Bool) (u : Int) : Int := if n = true then -u else u

theorem vo_in {x : Int} (h : -9223372036854775808 ≤ x) (h' : x ≤ 9223372036854775807) : vo x = x := if_pos ⟨h, h'⟩
theorem eo_in {x : Int} (h : -9223372036854775808 ≤ x) (h' : x ≤ 9223372036854775807) : eo x = 0 := if_pos ⟨h, h'⟩
theorem vo_out {x : Int} (h : x < -9223372036854775808 ∨ 9223372036854775807 < x) : vo x = 0 := if_neg (by omega)
theorem eo_out {x : Int} (h : x < -9223372036854775808 ∨ 9223372036854775807 < x) : eo x = 7 := if_neg (by omega)
theorem vo_bd (x : Int) : -9223372036854775808 ≤ vo x ∧ vo x ≤ 9223372036854775807 := by unfold vo; split <;> omega
theorem eo_cases (x : Int) : (eo x = 0 ∧ vo x = x ∧ -9223372036854775808 ≤ x ∧ x ≤ 9223372036854775807) ∨ (eo x = 7 ∧ vo x = 0 ∧ (x < -9223372036854775808 ∨ 9223372036854775807 < x)) := by
  unfold eo vo; split <;> omega

theorem mg_nonneg (a : Int) : 0 ≤ mg a := by unfold mg; split <;> omega
theorem mg_le {a : Int} (h0 : -9223372036854775808 ≤ a) (h1 : a ≤ 9223372036854775807) : mg a ≤ 9223372036854775808 := by unfold mg; split <;> omega
theorem mg_neg {a : Int} (h : a < 0) : mg a = -a := if_pos h
theorem mg_pos {a : Int} (h : ¬ a < 0) : mg a = a := if_neg h
theorem mg_zero {a : Int} : mg a = 0 ↔ a = 0 := by unfold mg; split <;> omega
theorem sg_mg (a : Int) : sg (decide (a < 0)) (mg a) = a := by
  unfold sg mg; by_cases h : a < 0 <;> simp [h]

theorem neg_mul_mg (a b : Int) : sg (decide (a < 0) != decide (b < 0)) (mg a * mg b) = a * b := by
  unfold sg mg
  by_cases ha : a < 0 <;> by_cases hb : b < 0 <;> simp [ha, hb, Int.neg_mul, Int.mul_neg]
theorem mg_mul (a b : Int) : mg (a * b) = mg a * mg b := by
  have := neg_mul_mg a b
  have h := Int.mul_nonneg (mg_nonneg a) (mg_nonneg b)
  generalize mg a * mg b = m at *
  unfold sg at this
  split at this
  · unfold mg; split <;> omega
  · unfold mg; split <;> omega

/-! ### two's complement: the sign of '^' and '&' -/
theorem wrap_toNat (r : BitVec 64) : IntKind.i64.wrap (r.toNat : Int) = r.toInt := by
  rw [IntKind.wrap_i64, BitVec.toInt_eq_toNat_cond]
  have := r.isLt
  split <;> omega

theorem toInt_neg (r : BitVec 64) : r.toInt < 0 ↔ r.msb = true := by
  rw [BitVec.msb_eq_toInt]; simp

theorem ofInt_msb (a : Int) (h0 : -9223372036854775808 ≤ a) (h1 : a ≤ 9223372036854775807) : (BitVec.ofInt 64 a).msb = decide (a < 0) := by
  rw [BitVec.msb_eq_toInt, BitVec.toInt_ofInt]
  congr 1
  simp only [Int.bmod_def]
  split <;> simp <;> omega

theorem bits_bd (op : BinOp) (a b : Int) : -9223372036854775808 ≤ bits op .i64 a b ∧ bits op .i64 a b ≤ 9223372036854775807 := by
  unfold bits
  simp only [IntKind.wrap_i64]
  omega

theorem xor_neg (a b : Int) (h0 : -9223372036854775808 ≤ a) (h1 : a ≤ 9223372036854775807) (h2 : -9223372036854775808 ≤ b) (h3 : b ≤ 9223372036854775807) :
    bits .xor .i64 a b < 0 ↔ ¬ (a < 0 ↔ b < 0) := by
  have e : bits .xor .i64 a b = (BitVec.ofInt 64 a ^^^ BitVec.ofInt 64 b).toInt := wrap_toNat _
  rw [e, toInt_neg, BitVec.msb_xor, ofInt_msb a h0 h1, ofInt_msb b h2 h3]
  by_cases ha : a < 0 <;> by_cases hb : b < 0 <;> simp [ha, hb]

theorem and_neg (a b : Int) (h0 : -9223372036854775808 ≤ a) (h1 : a ≤ 9223372036854775807) (h2 : -9223372036854775808 ≤ b) (h3 : b ≤ 9223372036854775807) :
    bits .and .i64 a b < 0 ↔ (a < 0 ∧ b < 0) := by
  have e : bits .and .i64 a b = (BitVec.ofInt 64 a &&& BitVec.ofInt 64 b).toInt := wrap_toNat _
  rw [e, toInt_neg, BitVec.msb_and, ofInt_msb a h0 h1, ofInt_msb b h2 h3]
  by_cases ha : a < 0 <;> by_cases hb : b < 0 <;> simp [ha, hb]

theorem wrap64_bd (x : Int) : -9223372036854775808 ≤ wrap64 x ∧ wrap64 x ≤ 9223372036854775807 := by unfold wrap64; omega

/-- Add's test. -/
theorem add_test (a b : Int) (h0 : -9223372036854775808 ≤ a) (h1 : a ≤ 9223372036854775807) (h2 : -9223372036854775808 ≤ b) (h3 : b ≤ 9223372036854775807) :
    bits .and .i64 (bits .xor .i64 a (wrap64 (a + b))) (bits .xor .i64 b (wrap64 (a + b))) < 0 ↔ (a + b < -9223372036854775808 ∨ 9223372036854775807 < a + b) := by
  have hw := wrap64_bd (a + b)
  have x1 := bits_bd .xor a (wrap64 (a + b))
  have x2 := bits_bd .xor b (wrap64 (a + b))
  rw [and_neg _ _ x1.1 x1.2 x2.1 x2.2, xor_neg _ _ h0 h1 hw.1 hw.2, xor_neg _ _ h2 h3 hw.1 hw.2]
  unfold wrap64
  omega

/-- Sub's test. -/
theorem sub_test (a b : Int) (h0 : -9223372036854775808 ≤ a) (h1 : a ≤ 9223372036854775807) (h2 : -9223372036854775808 ≤ b) (h3 : b ≤ 9223372036854775807) :
    bits .and .i64 (bits .xor .i64 a b) (bits .xor .i64 a (wrap64 (a - b))) < 0 ↔ (a - b < -9223372036854775808 ∨ 9223372036854775807 < a - b) := by
  have hw := wrap64_bd (a - b)
  have x1 := bits_bd .xor a b
  have x2 := bits_bd .xor a (wrap64 (a - b))
  rw [and_neg _ _ x1.1 x1.2 x2.1 x2.2, xor_neg _ _ h0 h1 h2 h3, xor_neg _ _ h0 h1 hw.1 hw.2]
  unfold wrap64
  omega

theorem wrap64_in {x : Int} (h : -9223372036854775808 ≤ x) (h' : x ≤ 9223372036854775807) : wrap64 x = x := by unfold wrap64; omega

/-! ### products of magnitudes -/
theorem mul_le_mul' {a b c d : Int} (h1 : a ≤ c) (h2 : b ≤ d) (h3 : 0 ≤ b) (h4 : 0 ≤ c) : a * b ≤ c * d :=
  Int.le_trans (Int.mul_le_mul_of_nonneg_right h1 h3) (Int.mul_le_mul_of_nonneg_left h2 h4)

theorem mul_bd {x y A B : Int} (h0 : 0 ≤ x) (h1 : x ≤ A) (h2 : 0 ≤ y) (h3 : y ≤ B) : 0 ≤ x * y ∧ x * y ≤ A * B :=
  ⟨Int.mul_nonneg h0 h2, mul_le_mul' h1 h3 h2 (Int.le_trans h0 h1)⟩

/-- bits.Mul64: the halves. -/
theorem mul64_parts (x y : Int) (h0 : 0 ≤ x) (h1 : x < 18446744073709551616) (h2 : 0 ≤ y) (h3 : y < 18446744073709551616) :
    ∃ x0 x1 y0 y1 : Int, x = x1 * 4294967296 + x0 ∧ y = y1 * 4294967296 + y0 ∧ 0 ≤ x0 ∧ x0 ≤ 4294967295 ∧ 0 ≤ x1 ∧ x1 ≤ 4294967295 ∧ 0 ≤ y0 ∧ y0 ≤ 4294967295 ∧ 0 ≤ y1 ∧ y1 ≤ 4294967295 ∧
      x % 4294967296 = x0 ∧ x / 4294967296 = x1 ∧ y % 4294967296 = y0 ∧ y / 4294967296 = y1 ∧
      x * y = (x1 * y1) * 18446744073709551616 + (x1 * y0) * 4294967296 + (x0 * y1) * 4294967296 + x0 * y0 := by
  refine ⟨x % 4294967296, x / 4294967296, y % 4294967296, y / 4294967296, by omega, by omega, by omega, by omega, by omega, by omega, by omega, by omega, by omega, by omega, rfl, rfl, rfl, rfl, ?_⟩
  have ex : x = x / 4294967296 * 4294967296 + x % 4294967296 := by omega
  have ey : y = y / 4294967296 * 4294967296 + y % 4294967296 := by omega
  generalize x / 4294967296 = x1 at *
  generalize x % 4294967296 = x0 at *
  generalize y / 4294967296 = y1 at *
  generalize y % 4294967296 = y0 at *
  subst ex ey
  simp only [Int.add_mul, Int.mul_add]
  have r1 : x1 * 4294967296 * (y1 * 4294967296) = x1 * y1 * 18446744073709551616 := by
    rw [show (18446744073709551616 : Int) = 4294967296 * 4294967296 from rfl, Int.mul_assoc x1, Int.mul_left_comm 4294967296 y1, ← Int.mul_assoc, ← Int.mul_assoc]
  have r2 : x1 * 4294967296 * y0 = x1 * y0 * 4294967296 := by rw [Int.mul_assoc, Int.mul_comm 4294967296, ← Int.mul_assoc]
  have r3 : x0 * (y1 * 4294967296) = x0 * y1 * 4294967296 := by rw [← Int.mul_assoc]
  omega

theorem mul64_hi (x y : Int) (h0 : 0 ≤ x) (h1 : x < 18446744073709551616) (h2 : 0 ≤ y) (h3 : y < 18446744073709551616) :
    ((x / 4294967296) * (y / 4294967296) + ((x / 4294967296) * (y % 4294967296) + ((x % 4294967296) * (y % 4294967296)) / 4294967296) / 4294967296 + (((x / 4294967296) * (y % 4294967296) + ((x % 4294967296) * (y % 4294967296)) / 4294967296) % 4294967296 + (x % 4294967296) * (y / 4294967296)) / 4294967296) = (x * y) / 18446744073709551616 := by
  obtain ⟨x0, x1, y0, y1, -, -, a1, a2, a3, a4, a5, a6, a7, a8, e1, e2, e3, e4, e⟩ := mul64_parts x y h0 h1 h2 h3
  rw [e1, e2, e3, e4, e]
  have p1 := mul_bd a1 a2 a5 a6
  have p2 := mul_bd a1 a2 a7 a8
  have p3 := mul_bd a3 a4 a5 a6
  have p4 := mul_bd a3 a4 a7 a8
  generalize x0 * y0 = A at *
  generalize x0 * y1 = B at *
  generalize x1 * y0 = C at *
  generalize x1 * y1 = D at *
  omega

/-- What Mul's test decides. -/
theorem mul_fits {a b m : Int} {n : Bool} (h : sg n m = a * b) (h0 : 0 ≤ m) (hz : m / 18446744073709551616 = 0) : sg n (m % 18446744073709551616) = a * b := by
  have e : m % 18446744073709551616 = m := by omega
  rw [e, h]
theorem mul_over {x m : Int} {n : Bool} (h : sg n m = x) (h0 : 0 ≤ m) (hz : ¬ m / 18446744073709551616 = 0) : x < -9223372036854775808 ∨ 9223372036854775807 < x := by
  subst h; unfold sg; split <;> omega

end Go.Proofs.Ytpfdoifkimjlbaa.M

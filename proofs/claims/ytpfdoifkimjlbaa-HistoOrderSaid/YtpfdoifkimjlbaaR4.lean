/- THE REFERENCE's integers: sums and differences of magnitudes, sums of integers, a bit. -/
import Derived.Test.YtpfdoifkimjlbaaR3
namespace Go.Proofs.Ytpfdoifkimjlbaa
open Go.RowKit M
set_option linter.unusedVariables false
set_option linter.unusedSimpArgs false

theorem more_M {va vb : Value} {m k : Int} (ha : IsM va m) (hb : IsM vb k) (hmk : m + k < 6277101735386680763835789423207666416102355444464034512896) :
    ∃ v, IsM v (m + k) ∧ ∀ w, Calls Try.prog 64 #[va, vb] w fun e w' => e = .returned v ∧ Below w.heap.size w w' := by
  obtain ⟨a0, a1, a2, a3, a4, a5, rfl, x0, x1, x2, x3, x4, x5, rfl⟩ := ha
  obtain ⟨b0, b1, b2, b3, b4, b5, rfl, y0, y1, y2, y3, y4, y5, rfl⟩ := hb
  obtain ⟨s0, hs0⟩ : ∃ s, a0 + b0 = s := ⟨_, rfl⟩
  obtain ⟨d0, hd0⟩ : ∃ d, s0 % 4294967296 = d := ⟨_, rfl⟩
  obtain ⟨c1, hc1⟩ : ∃ c, s0 / 4294967296 = c := ⟨_, rfl⟩
  have u0 : 0 ≤ s0 ∧ s0 ≤ 8589934591 := by omega
  have v0 : 0 ≤ c1 ∧ c1 ≤ 1 := by omega
  have z0 : d0 + 4294967296 * c1 = s0 := by omega
  have t0 : 0 ≤ d0 ∧ d0 ≤ 4294967295 := by omega
  obtain ⟨s1, hs1⟩ : ∃ s, a1 + b1 + c1 = s := ⟨_, rfl⟩
  obtain ⟨d1, hd1⟩ : ∃ d, s1 % 4294967296 = d := ⟨_, rfl⟩
  obtain ⟨c2, hc2⟩ : ∃ c, s1 / 4294967296 = c := ⟨_, rfl⟩
  have u1 : 0 ≤ s1 ∧ s1 ≤ 8589934591 := by omega
  have v1 : 0 ≤ c2 ∧ c2 ≤ 1 := by omega
  have z1 : d1 + 4294967296 * c2 = s1 := by omega
  have t1 : 0 ≤ d1 ∧ d1 ≤ 4294967295 := by omega
  obtain ⟨s2, hs2⟩ : ∃ s, a2 + b2 + c2 = s := ⟨_, rfl⟩
  obtain ⟨d2, hd2⟩ : ∃ d, s2 % 4294967296 = d := ⟨_, rfl⟩
  obtain ⟨c3, hc3⟩ : ∃ c, s2 / 4294967296 = c := ⟨_, rfl⟩
  have u2 : 0 ≤ s2 ∧ s2 ≤ 8589934591 := by omega
  have v2 : 0 ≤ c3 ∧ c3 ≤ 1 := by omega
  have z2 : d2 + 4294967296 * c3 = s2 := by omega
  have t2 : 0 ≤ d2 ∧ d2 ≤ 4294967295 := by omega
  obtain ⟨s3, hs3⟩ : ∃ s, a3 + b3 + c3 = s := ⟨_, rfl⟩
  obtain ⟨d3, hd3⟩ : ∃ d, s3 % 4294967296 = d := ⟨_, rfl⟩
  obtain ⟨c4, hc4⟩ : ∃ c, s3 / 4294967296 = c := ⟨_, rfl⟩
  have u3 : 0 ≤ s3 ∧ s3 ≤ 8589934591 := by omega
  have v3 : 0 ≤ c4 ∧ c4 ≤ 1 := by omega
  have z3 : d3 + 4294967296 * c4 = s3 := by omega
  have t3 : 0 ≤ d3 ∧ d3 ≤ 4294967295 := by omega
  obtain ⟨s4, hs4⟩ : ∃ s, a4 + b4 + c4 = s := ⟨_, rfl⟩
  obtain ⟨d4, hd4⟩ : ∃ d, s4 % 4294967296 = d := ⟨_, rfl⟩
  obtain ⟨c5, hc5⟩ : ∃ c, s4 / 4294967296 = c := ⟨_, rfl⟩
  have u4 : 0 ≤ s4 ∧ s4 ≤ 8589934591 := by omega
  have v4 : 0 ≤ c5 ∧ c5 ≤ 1 := by omega
  have z4 : d4 + 4294967296 * c5 = s4 := by omega
  have t4 : 0 ≤ d4 ∧ d4 ≤ 4294967295 := by omega
  obtain ⟨s5, hs5⟩ : ∃ s, a5 + b5 + c5 = s := ⟨_, rfl⟩
  obtain ⟨d5, hd5⟩ : ∃ d, s5 % 4294967296 = d := ⟨_, rfl⟩
  obtain ⟨c6, hc6⟩ : ∃ c, s5 / 4294967296 = c := ⟨_, rfl⟩
  have u5 : 0 ≤ s5 ∧ s5 ≤ 8589934591 := by omega
  have v5 : 0 ≤ c6 ∧ c6 ≤ 1 := by omega
  have z5 : d5 + 4294967296 * c6 = s5 := by omega
  have t5 : 0 ≤ d5 ∧ d5 ≤ 4294967295 := by omega
  refine ⟨_, ⟨d0, d1, d2, d3, d4, d5, rfl, t0, t1, t2, t3, t4, t5, ?_⟩, fun w => more_vars a0 a1 a2 a3 a4 a5 b0 b1 b2 b3 b4 b5 x0.1 x0.2 x1.1 x1.2 x2.1 x2.2 x3.1 x3.2 x4.1 x4.2 x5.1 x5.2 y0.1 y0.2 y1.1 y1.2 y2.1 y2.2 y3.1 y3.2 y4.1 y4.2 y5.1 y5.2 s0 s1 s2 s3 s4 s5 d0 d1 d2 d3 d4 d5 c1 c2 c3 c4 c5 c6 hs0 hd0 hc1 hs1 hd1 hc2 hs2 hd2 hc3 hs3 hd3 hc4 hs4 hd4 hc5 hs5 hd5 hc6 u0.1 u0.2 u1.1 u1.2 u2.1 u2.2 u3.1 u3.2 u4.1 u4.2 u5.1 u5.2 v0.1 v0.2 v1.1 v1.2 v2.1 v2.2 v3.1 v3.2 v4.1 v4.2 v5.1 v5.2 w⟩
  clear hd0 hc1 hd1 hc2 hd2 hc3 hd3 hc4 hd4 hc5 hd5 hc6
  unfold mag6 at *
  omega

theorem less_M {va vb : Value} {m k : Int} (ha : IsM va m) (hb : IsM vb k) (hmk : k ≤ m) :
    ∃ v, IsM v (m - k) ∧ ∀ w, Calls Try.prog 69 #[va, vb] w fun e w' => e = .returned v ∧ Below w.heap.size w w' := by
  obtain ⟨a0, a1, a2, a3, a4, a5, rfl, x0, x1, x2, x3, x4, x5, rfl⟩ := ha
  obtain ⟨b0, b1, b2, b3, b4, b5, rfl, y0, y1, y2, y3, y4, y5, rfl⟩ := hb
  obtain ⟨s0, hs0⟩ : ∃ s, a0 + 4294967296 - b0 = s := ⟨_, rfl⟩
  obtain ⟨d0, hd0⟩ : ∃ d, s0 % 4294967296 = d := ⟨_, rfl⟩
  obtain ⟨r0, hr0⟩ : ∃ r, s0 / 4294967296 = r := ⟨_, rfl⟩
  obtain ⟨c1, hc1⟩ : ∃ c, 1 - r0 = c := ⟨_, rfl⟩
  have u0 : 0 ≤ s0 ∧ s0 ≤ 8589934591 := by omega
  have w0 : 0 ≤ r0 ∧ r0 ≤ 1 := by omega
  have v0 : 0 ≤ c1 ∧ c1 ≤ 1 := by omega
  have z0 : d0 + 4294967296 * r0 = s0 := by omega
  have t0 : 0 ≤ d0 ∧ d0 ≤ 4294967295 := by omega
  obtain ⟨s1, hs1⟩ : ∃ s, a1 + 4294967296 - b1 - c1 = s := ⟨_, rfl⟩
  obtain ⟨d1, hd1⟩ : ∃ d, s1 % 4294967296 = d := ⟨_, rfl⟩
  obtain ⟨r1, hr1⟩ : ∃ r, s1 / 4294967296 = r := ⟨_, rfl⟩
  obtain ⟨c2, hc2⟩ : ∃ c, 1 - r1 = c := ⟨_, rfl⟩
  have u1 : 0 ≤ s1 ∧ s1 ≤ 8589934591 := by omega
  have w1 : 0 ≤ r1 ∧ r1 ≤ 1 := by omega
  have v1 : 0 ≤ c2 ∧ c2 ≤ 1 := by omega
  have z1 : d1 + 4294967296 * r1 = s1 := by omega
  have t1 : 0 ≤ d1 ∧ d1 ≤ 4294967295 := by omega
  obtain ⟨s2, hs2⟩ : ∃ s, a2 + 4294967296 - b2 - c2 = s := ⟨_, rfl⟩
  obtain ⟨d2, hd2⟩ : ∃ d, s2 % 4294967296 = d := ⟨_, rfl⟩
  obtain ⟨r2, hr2⟩ : ∃ r, s2 / 4294967296 = r := ⟨_, rfl⟩
  obtain ⟨c3, hc3⟩ : ∃ c, 1 - r2 = c := ⟨_, rfl⟩
  have u2 : 0 ≤ s2 ∧ s2 ≤ 8589934591 := by omega
  have w2 : 0 ≤ r2 ∧ r2 ≤ 1 := by omega
  have v2 : 0 ≤ c3 ∧ c3 ≤ 1 := by omega
  have z2 : d2 + 4294967296 * r2 = s2 := by omega
  have t2 : 0 ≤ d2 ∧ d2 ≤ 4294967295 := by omega
  obtain ⟨s3, hs3⟩ : ∃ s, a3 + 4294967296 - b3 - c3 = s := ⟨_, rfl⟩
  obtain ⟨d3, hd3⟩ : ∃ d, s3 % 4294967296 = d := ⟨_, rfl⟩
  obtain ⟨r3, hr3⟩ : ∃ r, s3 / 4294967296 = r := ⟨_, rfl⟩
  obtain ⟨c4, hc4⟩ : ∃ c, 1 - r3 = c := ⟨_, rfl⟩
  have u3 : 0 ≤ s3 ∧ s3 ≤ 8589934591 := by omega
  have w3 : 0 ≤ r3 ∧ r3 ≤ 1 := by omega
  have v3 : 0 ≤ c4 ∧ c4 ≤ 1 := by omega
  have z3 : d3 + 4294967296 * r3 = s3 := by omega
  have t3 : 0 ≤ d3 ∧ d3 ≤ 4294967295 := by omega
  obtain ⟨s4, hs4⟩ : ∃ s, a4 + 4294967296 - b4 - c4 = s := ⟨_, rfl⟩
  obtain ⟨d4, hd4⟩ : ∃ d, s4 % 4294967296 = d := ⟨_, rfl⟩
  obtain ⟨r4, hr4⟩ : ∃ r, s4 / 4294967296 = r := ⟨_, rfl⟩
  obtain ⟨c5, hc5⟩ : ∃ c, 1 - r4 = c := ⟨_, rfl⟩
  have u4 : 0 ≤ s4 ∧ s4 ≤ 8589934591 := by omega
  have w4 : 0 ≤ r4 ∧ r4 ≤ 1 := by omega
  have v4 : 0 ≤ c5 ∧ c5 ≤ 1 := by omega
  have z4 : d4 + 4294967296 * r4 = s4 := by omega
  have t4 : 0 ≤ d4 ∧ d4 ≤ 4294967295 := by omega
  obtain ⟨s5, hs5⟩ : ∃ s, a5 + 4294967296 - b5 - c5 = s := ⟨_, rfl⟩
  obtain ⟨d5, hd5⟩ : ∃ d, s5 % 4294967296 = d := ⟨_, rfl⟩
  obtain ⟨r5, hr5⟩ : ∃ r, s5 / 4294967296 = r := ⟨_, rfl⟩
  obtain ⟨c6, hc6⟩ : ∃ c, 1 - r5 = c := ⟨_, rfl⟩
  have u5 : 0 ≤ s5 ∧ s5 ≤ 8589934591 := by omega
  have w5 : 0 ≤ r5 ∧ r5 ≤ 1 := by omega
  have v5 : 0 ≤ c6 ∧ c6 ≤ 1 := by omega
  have z5 : d5 + 4294967296 * r5 = s5 := by omega
  have t5 : 0 ≤ d5 ∧ d5 ≤ 4294967295 := by omega
  refine ⟨_, ⟨d0, d1, d2, d3, d4, d5, rfl, t0, t1, t2, t3, t4, t5, ?_⟩, fun w => less_vars a0 a1 a2 a3 a4 a5 b0 b1 b2 b3 b4 b5 x0.1 x0.2 x1.1 x1.2 x2.1 x2.2 x3.1 x3.2 x4.1 x4.2 x5.1 x5.2 y0.1 y0.2 y1.1 y1.2 y2.1 y2.2 y3.1 y3.2 y4.1 y4.2 y5.1 y5.2 s0 s1 s2 s3 s4 s5 d0 d1 d2 d3 d4 d5 r0 r1 r2 r3 r4 r5 c1 c2 c3 c4 c5 c6 hs0 hd0 hr0 hc1 hs1 hd1 hr1 hc2 hs2 hd2 hr2 hc3 hs3 hd3 hr3 hc4 hs4 hd4 hr4 hc5 hs5 hd5 hr5 hc6 u0.1 u0.2 u1.1 u1.2 u2.1 u2.2 u3.1 u3.2 u4.1 u4.2 u5.1 u5.2 w0.1 w0.2 w1.1 w1.2 w2.1 w2.2 w3.1 w3.2 w4.1 w4.2 w5.1 w5.2 v0.1 v0.2 v1.1 v1.2 v2.1 v2.2 v3.1 v3.2 v4.1 v4.2 v5.1 v5.2 w⟩
  clear hd0 hr0 hd1 hr1 hd2 hr2 hd3 hr3 hd4 hr4 hd5 hr5
  unfold mag6 at *
  omega

theorem msize_M {va vb : Value} {m k : Int} (ha : IsM va m) (hb : IsM vb k) :
    ∀ w, Calls Try.prog 68 #[va, vb] w fun e w' => e = .returned (.int .i64 (sn (m - k))) ∧ Below w.heap.size w w' := by
  obtain ⟨a0, a1, a2, a3, a4, a5, rfl, x0, x1, x2, x3, x4, x5, rfl⟩ := ha
  obtain ⟨b0, b1, b2, b3, b4, b5, rfl, y0, y1, y2, y3, y4, y5, rfl⟩ := hb
  intro w
  exact msize_any a0 a1 a2 a3 a4 a5 b0 b1 b2 b3 b4 b5 x0.1 x0.2 x1.1 x1.2 x2.1 x2.2 x3.1 x3.2 x4.1 x4.2 x5.1 x5.2 y0.1 y0.2 y1.1 y1.2 y2.1 y2.2 y3.1 y3.2 y4.1 y4.2 y5.1 y5.2 w

theorem plus_W {va vb : Value} {x y : Int} (ha : IsW va x) (hb : IsW vb y) (h1 : x + y < 6277101735386680763835789423207666416102355444464034512896) (h2 : -6277101735386680763835789423207666416102355444464034512896 < x + y) :
    ∃ v, IsW v (x + y) ∧ ∀ w, Calls Try.prog 65 #[va, vb] w fun e w' => e = .returned v ∧ Below w.heap.size w w' := by
  obtain ⟨n, a0, a1, a2, a3, a4, a5, rfl, x0, x1, x2, x3, x4, x5, rfl⟩ := ha
  obtain ⟨k, b0, b1, b2, b3, b4, b5, rfl, y0, y1, y2, y3, y4, y5, rfl⟩ := hb
  have hA : IsM (.agg #[.int .u64 a0, .int .u64 a1, .int .u64 a2, .int .u64 a3, .int .u64 a4, .int .u64 a5]) (mag6 a0 a1 a2 a3 a4 a5) := ⟨_, _, _, _, _, _, rfl, x0, x1, x2, x3, x4, x5, rfl⟩
  have hB : IsM (.agg #[.int .u64 b0, .int .u64 b1, .int .u64 b2, .int .u64 b3, .int .u64 b4, .int .u64 b5]) (mag6 b0 b1 b2 b3 b4 b5) := ⟨_, _, _, _, _, _, rfl, y0, y1, y2, y3, y4, y5, rfl⟩
  have sz := msize_M hA hB
  have sc := sn_cases (mag6 a0 a1 a2 a3 a4 a5 - mag6 b0 b1 b2 b3 b4 b5)
  generalize mag6 a0 a1 a2 a3 a4 a5 = M1 at *
  generalize mag6 b0 b1 b2 b3 b4 b5 = M2 at *
  have fin : ∀ (r : Bool) (z : Int), (∃ d, IsM d z ∧ True) → True := fun _ _ _ => trivial
  clear fin
  cases n <;> cases k
  · obtain ⟨v, ⟨d0, d1, d2, d3, d4, d5, rfl, e0, e1, e2, e3, e4, e5, hm⟩, hc⟩ := more_M hA hB (by simp only [sg] at h1; simpa using h1)
    exact ⟨_, ⟨false, d0, d1, d2, d3, d4, d5, rfl, e0, e1, e2, e3, e4, e5, by rw [hm]; rfl⟩, fun w => plus_same false a0 a1 a2 a3 a4 a5 b0 b1 b2 b3 b4 b5 d0 d1 d2 d3 d4 d5 w hc⟩
  · by_cases h : M2 ≤ M1
    · obtain ⟨v, ⟨d0, d1, d2, d3, d4, d5, rfl, e0, e1, e2, e3, e4, e5, hm⟩, hc⟩ := less_M hA hB h
      exact ⟨_, ⟨false, d0, d1, d2, d3, d4, d5, rfl, e0, e1, e2, e3, e4, e5, by rw [hm]; simp only [sg]; simp; omega⟩, fun w => plus_ge_ft _ (by omega) a0 a1 a2 a3 a4 a5 b0 b1 b2 b3 b4 b5 d0 d1 d2 d3 d4 d5 w sz hc⟩
    · obtain ⟨v, ⟨d0, d1, d2, d3, d4, d5, rfl, e0, e1, e2, e3, e4, e5, hm⟩, hc⟩ := less_M hB hA (by omega)
      exact ⟨_, ⟨true, d0, d1, d2, d3, d4, d5, rfl, e0, e1, e2, e3, e4, e5, by rw [hm]; simp only [sg]; simp; omega⟩, fun w => plus_lt_ft _ (by omega) a0 a1 a2 a3 a4 a5 b0 b1 b2 b3 b4 b5 d0 d1 d2 d3 d4 d5 w sz hc⟩
  · by_cases h : M2 ≤ M1
    · obtain ⟨v, ⟨d0, d1, d2, d3, d4, d5, rfl, e0, e1, e2, e3, e4, e5, hm⟩, hc⟩ := less_M hA hB h
      exact ⟨_, ⟨true, d0, d1, d2, d3, d4, d5, rfl, e0, e1, e2, e3, e4, e5, by rw [hm]; simp only [sg]; simp; omega⟩, fun w => plus_ge_tf _ (by omega) a0 a1 a2 a3 a4 a5 b0 b1 b2 b3 b4 b5 d0 d1 d2 d3 d4 d5 w sz hc⟩
    · obtain ⟨v, ⟨d0, d1, d2, d3, d4, d5, rfl, e0, e1, e2, e3, e4, e5, hm⟩, hc⟩ := less_M hB hA (by omega)
      exact ⟨_, ⟨false, d0, d1, d2, d3, d4, d5, rfl, e0, e1, e2, e3, e4, e5, by rw [hm]; simp only [sg]; simp; omega⟩, fun w => plus_lt_tf _ (by omega) a0 a1 a2 a3 a4 a5 b0 b1 b2 b3 b4 b5 d0 d1 d2 d3 d4 d5 w sz hc⟩
  · obtain ⟨v, ⟨d0, d1, d2, d3, d4, d5, rfl, e0, e1, e2, e3, e4, e5, hm⟩, hc⟩ := more_M hA hB (by simp only [sg] at h2; simp at h2; omega)
    exact ⟨_, ⟨true, d0, d1, d2, d3, d4, d5, rfl, e0, e1, e2, e3, e4, e5, by rw [hm]; simp only [sg]; simp; omega⟩, fun w => plus_same true a0 a1 a2 a3 a4 a5 b0 b1 b2 b3 b4 b5 d0 d1 d2 d3 d4 d5 w hc⟩

/-! ### a bit -/
theorem half_pow (x : Int) (j : Nat) : x / 2 ^ j / 2 = x / 2 ^ (j + 1) := by
  rw [Int.ediv_ediv_of_nonneg (Int.le_of_lt (Int.pow_pos (by decide))), Int.pow_succ]

theorem bit_digit (a rest : Int) (r : Nat) (hr : r < 32) : (a + 4294967296 * rest) / 2 ^ r % 2 = a / 2 ^ r % 2 := by
  have e : (4294967296 : Int) = 2 ^ r * (2 * 2 ^ (31 - r)) := by
    rw [← Int.mul_assoc, Int.mul_comm (2 ^ r) 2, Int.mul_assoc, ← Int.pow_add, show r + (31 - r) = 31 by omega]; rfl
  rw [e, Int.mul_assoc, Int.add_mul_ediv_left _ _ (Int.ne_of_gt (Int.pow_pos (by decide))), Int.mul_assoc, Int.add_mul_emod_self_left]


theorem bit_at0 (a0 a1 a2 a3 a4 a5 n r : Int) (w : World) (p0 : 0 ≤ a0) (q0 : a0 ≤ 4294967295) (hn0 : 0 ≤ n) (hn1 : n ≤ 191) (hq : n / 32 = 0) (hr : n % 32 = r) (r0 : 0 ≤ r) (r1 : r ≤ 31) :
    Calls Try.prog 63 #[.agg #[.int .u64 a0, .int .u64 a1, .int .u64 a2, .int .u64 a3, .int .u64 a4, .int .u64 a5], .int .i64 n] w fun e w' => e = .returned (.int .u64 (a0 / 2 ^ r.toNat % 2)) ∧ Below w.heap.size w w' := by
  go_enter Try.func63, Try.ntmps63
  go_wp2
  go_loop [5, 6] (fun x i => ∃ j : Nat, (j : Int) ≤ r ∧ i = .int .i64 j ∧ x = .int .u64 (a0 / 2 ^ j)) (fun _ i => (r - intOf i).toNat)
  case atStart => exact ⟨0, by omega, rfl, by simp⟩
  case round =>
    obtain ⟨j, hj, rfl, rfl⟩ := hrel
    have y0 : 0 ≤ a0 / 2 ^ j := Int.ediv_nonneg p0 (Int.le_of_lt (Int.pow_pos (by decide)))
    have y1 : a0 / 2 ^ j ≤ 4294967295 := Int.le_trans (Int.ediv_le_self _ p0) q0
    have HP := Lib.hid (half_pow a0 j)
    by_cases hlt : (j : Int) < r
    · obtain ⟨y, hy⟩ : ∃ y, a0 / 2 ^ j = y := ⟨_, rfl⟩
      rw [hy] at y0 y1 HP ⊢
      clear hy
      go_wp2
      go_round
      case rel => exact ⟨j + 1, by omega, by go_num, by rw [← HP.out]⟩
      case measure => simp [intOf]; omega
    · have hjr : (j : Int) = r := by omega
      have HJ : Hid (j = r.toNat) := by show j = r.toNat; omega
      clear hjr
      go_wp2
      go_ret
      exact ⟨ret_int (by rw [HJ.out]), (Below.refl _ _).alloc (Nat.le_refl _) _⟩

theorem bit_at1 (a0 a1 a2 a3 a4 a5 n r : Int) (w : World) (p1 : 0 ≤ a1) (q1 : a1 ≤ 4294967295) (hn0 : 0 ≤ n) (hn1 : n ≤ 191) (hq : n / 32 = 1) (hr : n % 32 = r) (r0 : 0 ≤ r) (r1 : r ≤ 31) :
    Calls Try.prog 63 #[.agg #[.int .u64 a0, .int .u64 a1, .int .u64 a2, .int .u64 a3, .int .u64 a4, .int .u64 a5], .int .i64 n] w fun e w' => e = .returned (.int .u64 (a1 / 2 ^ r.toNat % 2)) ∧ Below w.heap.size w w' := by
  go_enter Try.func63, Try.ntmps63
  go_wp2
  go_loop [5, 6] (fun x i => ∃ j : Nat, (j : Int) ≤ r ∧ i = .int .i64 j ∧ x = .int .u64 (a1 / 2 ^ j)) (fun _ i => (r - intOf i).toNat)
  case atStart => exact ⟨0, by omega, rfl, by simp⟩
  case round =>
    obtain ⟨j, hj, rfl, rfl⟩ := hrel
    have y0 : 0 ≤ a1 / 2 ^ j := Int.ediv_nonneg p1 (Int.le_of_lt (Int.pow_pos (by decide)))
    have y1 : a1 / 2 ^ j ≤ 4294967295 := Int.le_trans (Int.ediv_le_self _ p1) q1
    have HP := Lib.hid (half_pow a1 j)
    by_cases hlt : (j : Int) < r
    · obtain ⟨y, hy⟩ : ∃ y, a1 / 2 ^ j = y := ⟨_, rfl⟩
      rw [hy] at y0 y1 HP ⊢
      clear hy
      go_wp2
      go_round
      case rel => exact ⟨j + 1, by omega, by go_num, by rw [← HP.out]⟩
      case measure => simp [intOf]; omega
    · have hjr : (j : Int) = r := by omega
      have HJ : Hid (j = r.toNat) := by show j = r.toNat; omega
      clear hjr
      go_wp2
      go_ret
      exact ⟨ret_int (by rw [HJ.out]), (Below.refl _ _).alloc (Nat.le_refl _) _⟩

theorem bit_at2 (a0 a1 a2 a3 a4 a5 n r : Int) (w : World) (p2 : 0 ≤ a2) (q2 : a2 ≤ 4294967295) (hn0 : 0 ≤ n) (hn1 : n ≤ 191) (hq : n / 32 = 2) (hr : n % 32 = r) (r0 : 0 ≤ r) (r1 : r ≤ 31) :
    Calls Try.prog 63 #[.agg #[.int .u64 a0, .int .u64 a1, .int .u64 a2, .int .u64 a3, .int .u64 a4, .int .u64 a5], .int .i64 n] w fun e w' => e = .returned (.int .u64 (a2 / 2 ^ r.toNat % 2)) ∧ Below w.heap.size w w' := by
  go_enter Try.func63, Try.ntmps63
  go_wp2
  go_loop [5, 6] (fun x i => ∃ j : Nat, (j : Int) ≤ r ∧ i = .int .i64 j ∧ x = .int .u64 (a2 / 2 ^ j)) (fun _ i => (r - intOf i).toNat)
  case atStart => exact ⟨0, by omega, rfl, by simp⟩
  case round =>
    obtain ⟨j, hj, rfl, rfl⟩ := hrel
    have y0 : 0 ≤ a2 / 2 ^ j := Int.ediv_nonneg p2 (Int.le_of_lt (Int.pow_pos (by decide)))
    have y1 : a2 / 2 ^ j ≤ 4294967295 := Int.le_trans (Int.ediv_le_self _ p2) q2
    have HP := Lib.hid (half_pow a2 j)
    by_cases hlt : (j : Int) < r
    · obtain ⟨y, hy⟩ : ∃ y, a2 / 2 ^ j = y := ⟨_, rfl⟩
      rw [hy] at y0 y1 HP ⊢
      clear hy
      go_wp2
      go_round
      case rel => exact ⟨j + 1, by omega, by go_num, by rw [← HP.out]⟩
      case measure => simp [intOf]; omega
    · have hjr : (j : Int) = r := by omega
      have HJ : Hid (j = r.toNat) := by show j = r.toNat; omega
      clear hjr
      go_wp2
      go_ret
      exact ⟨ret_int (by rw [HJ.out]), (Below.refl _ _).alloc (Nat.le_refl _) _⟩

theorem bit_at3 (a0 a1 a2 a3 a4 a5 n r : Int) (w : World) (p3 : 0 ≤ a3) (q3 : a3 ≤ 4294967295) (hn0 : 0 ≤ n) (hn1 : n ≤ 191) (hq : n / 32 = 3) (hr : n % 32 = r) (r0 : 0 ≤ r) (r1 : r ≤ 31) :
    Calls Try.prog 63 #[.agg #[.int .u64 a0, .int .u64 a1, .int .u64 a2, .int .u64 a3, .int .u64 a4, .int .u64 a5], .int .i64 n] w fun e w' => e = .returned (.int .u64 (a3 / 2 ^ r.toNat % 2)) ∧ Below w.heap.size w w' := by
  go_enter Try.func63, Try.ntmps63
  go_wp2
  go_loop [5, 6] (fun x i => ∃ j : Nat, (j : Int) ≤ r ∧ i = .int .i64 j ∧ x = .int .u64 (a3 / 2 ^ j)) (fun _ i => (r - intOf i).toNat)
  case atStart => exact ⟨0, by omega, rfl, by simp⟩
  case round =>
    obtain ⟨j, hj, rfl, rfl⟩ := hrel
    have y0 : 0 ≤ a3 / 2 ^ j := Int.ediv_nonneg p3 (Int.le_of_lt (Int.pow_pos (by decide)))
    have y1 : a3 / 2 ^ j ≤ 4294967295 := Int.le_trans (Int.ediv_le_self _ p3) q3
    have HP := Lib.hid (half_pow a3 j)
    by_cases hlt : (j : Int) < r
    · obtain ⟨y, hy⟩ : ∃ y, a3 / 2 ^ j = y := ⟨_, rfl⟩
      rw [hy] at y0 y1 HP ⊢
      clear hy
      go_wp2
      go_round
      case rel => exact ⟨j + 1, by omega, by go_num, by rw [← HP.out]⟩
      case measure => simp [intOf]; omega
    · have hjr : (j : Int) = r := by omega
      have HJ : Hid (j = r.toNat) := by show j = r.toNat; omega
      clear hjr
      go_wp2
      go_ret
      exact ⟨ret_int (by rw [HJ.out]), (Below.refl _ _).alloc (Nat.le_refl _) _⟩

theorem bit_at4 (a0 a1 a2 a3 a4 a5 n r : Int) (w : World) (p4 : 0 ≤ a4) (q4 : a4 ≤ 4294967295) (hn0 : 0 ≤ n) (hn1 : n ≤ 191) (hq : n / 32 = 4) (hr : n % 32 = r) (r0 : 0 ≤ r) (r1 : r ≤ 31) :
    Calls Try.prog 63 #[.agg #[.int .u64 a0, .int .u64 a1, .int .u64 a2, .int .u64 a3, .int .u64 a4, .int .u64 a5], .int .i64 n] w fun e w' => e = .returned (.int .u64 (a4 / 2 ^ r.toNat % 2)) ∧ Below w.heap.size w w' := by
  go_enter Try.func63, Try.ntmps63
  go_wp2
  go_loop [5, 6] (fun x i => ∃ j : Nat, (j : Int) ≤ r ∧ i = .int .i64 j ∧ x = .int .u64 (a4 / 2 ^ j)) (fun _ i => (r - intOf i).toNat)
  case atStart => exact ⟨0, by omega, rfl, by simp⟩
  case round =>
    obtain ⟨j, hj, rfl, rfl⟩ := hrel
    have y0 : 0 ≤ a4 / 2 ^ j := Int.ediv_nonneg p4 (Int.le_of_lt (Int.pow_pos (by decide)))
    have y1 : a4 / 2 ^ j ≤ 4294967295 := Int.le_trans (Int.ediv_le_self _ p4) q4
    have HP := Lib.hid (half_pow a4 j)
    by_cases hlt : (j : Int) < r
    · obtain ⟨y, hy⟩ : ∃ y, a4 / 2 ^ j = y := ⟨_, rfl⟩
      rw [hy] at y0 y1 HP ⊢
      clear hy
      go_wp2
      go_round
      case rel => exact ⟨j + 1, by omega, by go_num, by rw [← HP.out]⟩
      case measure => simp [intOf]; omega
    · have hjr : (j : Int) = r := by omega
      have HJ : Hid (j = r.toNat) := by show j = r.toNat; omega
      clear hjr
      go_wp2
      go_ret
      exact ⟨ret_int (by rw [HJ.out]), (Below.refl _ _).alloc (Nat.le_refl _) _⟩

theorem bit_at5 (a0 a1 a2 a3 a4 a5 n r : Int) (w : World) (p5 : 0 ≤ a5) (q5 : a5 ≤ 4294967295) (hn0 : 0 ≤ n) (hn1 : n ≤ 191) (hq : n / 32 = 5) (hr : n % 32 = r) (r0 : 0 ≤ r) (r1 : r ≤ 31) :
    Calls Try.prog 63 #[.agg #[.int .u64 a0, .int .u64 a1, .int .u64 a2, .int .u64 a3, .int .u64 a4, .int .u64 a5], .int .i64 n] w fun e w' => e = .returned (.int .u64 (a5 / 2 ^ r.toNat % 2)) ∧ Below w.heap.size w w' := by
  go_enter Try.func63, Try.ntmps63
  go_wp2
  go_loop [5, 6] (fun x i => ∃ j : Nat, (j : Int) ≤ r ∧ i = .int .i64 j ∧ x = .int .u64 (a5 / 2 ^ j)) (fun _ i => (r - intOf i).toNat)
  case atStart => exact ⟨0, by omega, rfl, by simp⟩
  case round =>
    obtain ⟨j, hj, rfl, rfl⟩ := hrel
    have y0 : 0 ≤ a5 / 2 ^ j := Int.ediv_nonneg p5 (Int.le_of_lt (Int.pow_pos (by decide)))
    have y1 : a5 / 2 ^ j ≤ 4294967295 := Int.le_trans (Int.ediv_le_self _ p5) q5
    have HP := Lib.hid (half_pow a5 j)
    by_cases hlt : (j : Int) < r
    · obtain ⟨y, hy⟩ : ∃ y, a5 / 2 ^ j = y := ⟨_, rfl⟩
      rw [hy] at y0 y1 HP ⊢
      clear hy
      go_wp2
      go_round
      case rel => exact ⟨j + 1, by omega, by go_num, by rw [← HP.out]⟩
      case measure => simp [intOf]; omega
    · have hjr : (j : Int) = r := by omega
      have HJ : Hid (j = r.toNat) := by show j = r.toNat; omega
      clear hjr
      go_wp2
      go_ret
      exact ⟨ret_int (by rw [HJ.out]), (Below.refl _ _).alloc (Nat.le_refl _) _⟩

theorem bit_M {v : Value} {m6 n : Int} (hv : IsM v m6) (h0 : 0 ≤ n) (h1 : n < 192) :
    ∀ w, Calls Try.prog 63 #[v, .int .i64 n] w fun e w' => e = .returned (.int .u64 (m6 / 2 ^ n.toNat % 2)) ∧ Below w.heap.size w w' := by
  obtain ⟨a0, a1, a2, a3, a4, a5, rfl, x0, x1, x2, x3, x4, x5, hm6⟩ := hv
  intro w
  obtain ⟨r, hr⟩ : ∃ r, n % 32 = r := ⟨_, rfl⟩
  rcases (by omega : n / 32 = 0 ∨ n / 32 = 1 ∨ n / 32 = 2 ∨ n / 32 = 3 ∨ n / 32 = 4 ∨ n / 32 = 5) with h | h | h | h | h | h
  · have hd : m6 / 2 ^ n.toNat % 2 = a0 / 2 ^ r.toNat % 2 := by
      have e1 : n.toNat = 0 + r.toNat := by omega
      have e2 : m6 / 2 ^ 0 = a0 + 4294967296 * (m6 / 4294967296) := by
        rw [show (2 : Int) ^ 0 = 1 from rfl]
        unfold mag6 at hm6
        omega
      rw [e1, Int.pow_add, ← Int.ediv_ediv_of_nonneg (Int.le_of_lt (Int.pow_pos (by decide))), e2]
      exact bit_digit _ _ _ (by omega)
    rw [hd]
    exact bit_at0 a0 a1 a2 a3 a4 a5 n r w x0.1 x0.2 h0 (by omega) h (by omega) (by omega) (by omega)
  · have hd : m6 / 2 ^ n.toNat % 2 = a1 / 2 ^ r.toNat % 2 := by
      have e1 : n.toNat = 32 + r.toNat := by omega
      have e2 : m6 / 2 ^ 32 = a1 + 4294967296 * (m6 / 18446744073709551616) := by
        rw [show (2 : Int) ^ 32 = 4294967296 from rfl]
        unfold mag6 at hm6
        omega
      rw [e1, Int.pow_add, ← Int.ediv_ediv_of_nonneg (Int.le_of_lt (Int.pow_pos (by decide))), e2]
      exact bit_digit _ _ _ (by omega)
    rw [hd]
    exact bit_at1 a0 a1 a2 a3 a4 a5 n r w x1.1 x1.2 h0 (by omega) h (by omega) (by omega) (by omega)
  · have hd : m6 / 2 ^ n.toNat % 2 = a2 / 2 ^ r.toNat % 2 := by
      have e1 : n.toNat = 64 + r.toNat := by omega
      have e2 : m6 / 2 ^ 64 = a2 + 4294967296 * (m6 / 79228162514264337593543950336) := by
        rw [show (2 : Int) ^ 64 = 18446744073709551616 from rfl]
        unfold mag6 at hm6
        omega
      rw [e1, Int.pow_add, ← Int.ediv_ediv_of_nonneg (Int.le_of_lt (Int.pow_pos (by decide))), e2]
      exact bit_digit _ _ _ (by omega)
    rw [hd]
    exact bit_at2 a0 a1 a2 a3 a4 a5 n r w x2.1 x2.2 h0 (by omega) h (by omega) (by omega) (by omega)
  · have hd : m6 / 2 ^ n.toNat % 2 = a3 / 2 ^ r.toNat % 2 := by
      have e1 : n.toNat = 96 + r.toNat := by omega
      have e2 : m6 / 2 ^ 96 = a3 + 4294967296 * (m6 / 340282366920938463463374607431768211456) := by
        rw [show (2 : Int) ^ 96 = 79228162514264337593543950336 from rfl]
        unfold mag6 at hm6
        omega
      rw [e1, Int.pow_add, ← Int.ediv_ediv_of_nonneg (Int.le_of_lt (Int.pow_pos (by decide))), e2]
      exact bit_digit _ _ _ (by omega)
    rw [hd]
    exact bit_at3 a0 a1 a2 a3 a4 a5 n r w x3.1 x3.2 h0 (by omega) h (by omega) (by omega) (by omega)
  · have hd : m6 / 2 ^ n.toNat % 2 = a4 / 2 ^ r.toNat % 2 := by
      have e1 : n.toNat = 128 + r.toNat := by omega
      have e2 : m6 / 2 ^ 128 = a4 + 4294967296 * (m6 / 1461501637330902918203684832716283019655932542976) := by
        rw [show (2 : Int) ^ 128 = 340282366920938463463374607431768211456 from rfl]
        unfold mag6 at hm6
        omega
      rw [e1, Int.pow_add, ← Int.ediv_ediv_of_nonneg (Int.le_of_lt (Int.pow_pos (by decide))), e2]
      exact bit_digit _ _ _ (by omega)
    rw [hd]
    exact bit_at4 a0 a1 a2 a3 a4 a5 n r w x4.1 x4.2 h0 (by omega) h (by omega) (by omega) (by omega)
  · have hd : m6 / 2 ^ n.toNat % 2 = a5 / 2 ^ r.toNat % 2 := by
      have e1 : n.toNat = 160 + r.toNat := by omega
      have e2 : m6 / 2 ^ 160 = a5 + 4294967296 * (m6 / 6277101735386680763835789423207666416102355444464034512896) := by
        rw [show (2 : Int) ^ 160 = 1461501637330902918203684832716283019655932542976 from rfl]
        unfold mag6 at hm6
        omega
      rw [e1, Int.pow_add, ← Int.ediv_ediv_of_nonneg (Int.le_of_lt (Int.pow_pos (by decide))), e2]
      exact bit_digit _ _ _ (by omega)
    rw [hd]
    exact bit_at5 a0 a1 a2 a3 a4 a5 n r w x5.1 x5.2 h0 (by omega) h (by omega) (by omega) (by omega)

end Go.Proofs.Ytpfdoifkimjlbaa

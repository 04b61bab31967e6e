/- THE CONTRACTS of package checked's small functions: size, signed, product, Add, Sub, Mul, sign: each returns what YtpfdoifkimjlbaaM's words say. -/
import Derived.Test.YtpfdoifkimjlbaaM
import Derived.Test.YtpfdoifkimjlbaaShelf
import Derived.Below
import Derived.WalkKit
import Derived.WalkSpells
import Derived.WalkLawsBesides
import Derived.KernelRfl
import Derived.Laws.BitsLemmas
import Derived.Deep.QuietTactic
import Derived.BigQuiet
import Derived.Outline
import Derived.Lib.Hide
namespace Go.Proofs.Ytpfdoifkimjlbaa
open Go.RowKit M
set_option linter.unusedVariables false
set_option linter.unusedSimpArgs false

theorem ret_int {k : IntKind} {a b : Int} (h : a = b) : Ending.returned (.int k a) = .returned (.int k b) := by rw [h]
theorem ret_two {k l : IntKind} {a b c d : Int} (h : a = b) (h' : c = d) : Ending.returned (.tuple #[.int k a, .int l c]) = .returned (.tuple #[.int k b, .int l d]) := by rw [h, h']

theorem bcell {W w1 : World} (hb : Below W.heap.size W w1) : (∀ b o, b < W.heap.size → w1.cell? ⟨b, o, none⟩ = W.cell? ⟨b, o, none⟩) ∧ (∀ b o, b < W.heap.size → w1.frozen? ⟨b, o, none⟩ = W.frozen? ⟨b, o, none⟩) :=
  ⟨fun b o h => hb.cell (p := ⟨b, o, none⟩) h, fun b o h => hb.frozen (p := ⟨b, o, none⟩) h⟩

theorem size_any (a : Int) (w : World) (h0 : -9223372036854775808 ≤ a) (h1 : a ≤ 9223372036854775807) :
    Calls Try.prog 61 #[.int .i64 a] w fun e w' => e = .returned (.int .u64 (mg a)) ∧ w = w' := by
  by_cases hn : a < 0
  · go_enter Try.func61, Try.ntmps61
    go_wp2
    go_ret
    exact ⟨ret_int (by rw [mg_neg hn]; simp only [IntKind.wrap_u64]; omega), rfl⟩
  · go_enter Try.func61, Try.ntmps61
    go_wp2
    go_ret
    exact ⟨ret_int (by rw [mg_pos (by omega)]), rfl⟩

theorem signed_any (n : Bool) (u : Int) (w : World) (h0 : 0 ≤ u) (h1 : u ≤ 18446744073709551615) :
    Calls Try.prog 55 #[.bool n, .int .u64 u] w fun e w' => e = .returned (.tuple #[.int .i64 (vo (sg n u)), .int .i64 (eo (sg n u))]) ∧ w = w' := by
  cases n
  · by_cases h : u ≤ 9223372036854775807
    · go_enter Try.func55, Try.ntmps55
      go_wp2
      go_ret2
      exact ⟨ret_two (by simp only [sg]; rw [vo_in] <;> simp <;> omega) (by simp only [sg]; rw [eo_in] <;> simp <;> omega), rfl⟩
    · go_enter Try.func55, Try.ntmps55
      go_wp2
      go_ret2
      exact ⟨ret_two (by simp only [sg]; rw [vo_out]; simp; omega) (by simp only [sg]; rw [eo_out]; simp; omega), rfl⟩
  · by_cases h : u ≤ 9223372036854775808
    · go_enter Try.func55, Try.ntmps55
      go_wp2
      go_ret2
      have e : wrap64 (-wrap64 u) = -u := by unfold wrap64; omega
      exact ⟨ret_two (by show wrap64 (-wrap64 u) = vo (sg true u); rw [e]; simp only [sg, if_true]; rw [vo_in (by omega) (by omega)]) (by simp only [sg, if_true]; rw [eo_in (by omega) (by omega)]), rfl⟩
    · go_enter Try.func55, Try.ntmps55
      go_wp2
      go_ret2
      exact ⟨ret_two (by simp only [sg]; rw [vo_out]; simp; omega) (by simp only [sg]; rw [eo_out]; simp; omega), rfl⟩

theorem add_any (a b : Int) (w : World) (h0 : -9223372036854775808 ≤ a) (h1 : a ≤ 9223372036854775807) (h2 : -9223372036854775808 ≤ b) (h3 : b ≤ 9223372036854775807) :
    Calls Try.prog 44 #[.int .i64 a, .int .i64 b] w fun e w' => e = .returned (.tuple #[.int .i64 (vo (a + b)), .int .i64 (eo (a + b))]) ∧ w = w' := by
  have ht := add_test a b h0 h1 h2 h3
  have H := Lib.hid ht
  clear ht
  go_enter Try.func44, Try.ntmps44
  go_wp2
  · go_ret2
    have hh := H.out.1 (by assumption)
    exact ⟨ret_two (vo_out hh).symm (eo_out hh).symm, rfl⟩
  · go_ret2
    have hh : ¬ (a + b < -9223372036854775808 ∨ 9223372036854775807 < a + b) := fun q => absurd (H.out.2 q) (by omega)
    exact ⟨ret_two (by rw [vo_in (by omega) (by omega)]; exact wrap64_in (by omega) (by omega)) (eo_in (by omega) (by omega)).symm, rfl⟩

theorem mul64_any (x y : Int) (w : World) (h0 : 0 ≤ x) (h1 : x ≤ 18446744073709551615) (h2 : 0 ≤ y) (h3 : y ≤ 18446744073709551615) :
    Calls Try.prog 60 #[.int .u64 x, .int .u64 y] w fun e w' => e = .returned (.tuple #[.int .u64 (x * y / 18446744073709551616), .int .u64 (x * y % 18446744073709551616)]) ∧ w = w' := by
  obtain ⟨a, rfl⟩ := Int.eq_ofNat_of_zero_le h0
  obtain ⟨b, rfl⟩ := Int.eq_ofNat_of_zero_le h2
  refine (Try.bits_Mul64 a b (by omega) (by omega) w).mono ?_
  rintro e w' ⟨rfl, rfl⟩
  have e1 : ((a * b / 18446744073709551616 : Nat) : Int) = (a : Int) * b / 18446744073709551616 := by omega
  have e2 : ((a * b % 18446744073709551616 : Nat) : Int) = (a : Int) * b % 18446744073709551616 := by omega
  exact ⟨by rw [e1, e2], rfl⟩

theorem product_any (a b : Int) (w : World) (h0 : -9223372036854775808 ≤ a) (h1 : a ≤ 9223372036854775807) (h2 : -9223372036854775808 ≤ b) (h3 : b ≤ 9223372036854775807) :
    Calls Try.prog 53 #[.int .i64 a, .int .i64 b] w fun e w' => e = .returned (.agg #[.int .u64 (mg a * mg b / 18446744073709551616), .int .u64 (mg a * mg b % 18446744073709551616)]) ∧ Below w.heap.size w w' := by
  have a1 := mg_nonneg a
  have a2 := mg_le h0 h1
  have b1 := mg_nonneg b
  have b2 := mg_le h2 h3
  go_enter Try.func53, Try.ntmps53
  go_wp2_with (first | (go_at_call 61; refine (size_any _ _ (by omega) (by omega)).mono ?_; rintro e w' ⟨rfl, rfl⟩) | (go_at_call 60; refine (mul64_any _ _ _ (by omega) (by omega) (by omega) (by omega)).mono ?_; rintro e w' ⟨rfl, rfl⟩))
  refine bodyPost_ret (v := .agg #[.int .u64 (mg a * mg b / 18446744073709551616), .int .u64 (mg a * mg b % 18446744073709551616)]) (by simp [results, Try.results53, go_sem]) rfl ⟨rfl, ?_⟩
  exact (Below.refl _ _).alloc (Nat.le_refl _) _

/-! ### sign, gcd -/
def sn (a : Int) : Int := if a < 0 then -1 else if 0 < a then 1 else 0

/-- The greatest common divisor of two numbers from 0 on. -/
def gd (a b : Int) : Int := Int.gcd a b
theorem gd_zero (a : Int) (h : 0 ≤ a) : gd a 0 = a := by unfold gd; simp; omega
theorem gd_step (a b : Int) (h0 : 0 ≤ a) (h : 0 < b) : gd b (a % b) = gd a b := by
  unfold gd
  obtain ⟨x, rfl⟩ := Int.eq_ofNat_of_zero_le h0
  obtain ⟨y, rfl⟩ := Int.eq_ofNat_of_zero_le (Int.le_of_lt h)
  show ((Int.gcd (y : Int) ((x % y : Nat) : Int) : Nat) : Int) = _
  simp only [Int.gcd_natCast_natCast]
  rw [Nat.gcd_comm x y, Nat.gcd_rec y x, Nat.gcd_comm]

theorem gd_pos {a b : Int} (h0 : 0 ≤ a) (h : 0 < b) : 0 < gd a b := by
  unfold gd
  have : 0 < Int.gcd a b := Int.gcd_pos_iff.2 (Or.inr (by omega))
  omega
theorem gd_le {a b : Int} (h0 : 0 ≤ a) (h : 0 < b) : gd a b ≤ b := by
  unfold gd
  exact Int.le_of_dvd h (Int.gcd_dvd_right _ _)

theorem signed_ok (n : Bool) (u : Int) (w : World) (h0 : 0 ≤ u) (h1 : u ≤ 18446744073709551615) (h2 : -9223372036854775808 ≤ sg n u) (h3 : sg n u ≤ 9223372036854775807) :
    Calls Try.prog 55 #[.bool n, .int .u64 u] w fun e w' => e = .returned (.tuple #[.int .i64 (sg n u), .int .i64 0]) ∧ w = w' := by
  refine (signed_any n u w h0 h1).mono ?_
  rintro e w' ⟨rfl, rfl⟩
  exact ⟨ret_two (vo_in h2 h3) (eo_in h2 h3), rfl⟩
theorem signed_over (n : Bool) (u : Int) (w : World) (h0 : 0 ≤ u) (h1 : u ≤ 18446744073709551615) (h2 : sg n u < -9223372036854775808 ∨ 9223372036854775807 < sg n u) :
    Calls Try.prog 55 #[.bool n, .int .u64 u] w fun e w' => e = .returned (.tuple #[.int .i64 0, .int .i64 7]) ∧ w = w' := by
  refine (signed_any n u w h0 h1).mono ?_
  rintro e w' ⟨rfl, rfl⟩
  exact ⟨ret_two (vo_out h2) (eo_out h2), rfl⟩

/-! ### Reduce -/
def rN (n d : Int) : Int := sg (!(decide (n < 0) == decide (d < 0))) (mg n / gd (mg n) (mg d))
def rD (n d : Int) : Int := mg d / gd (mg n) (mg d)
def rfit (n d : Int) : Bool := decide (-9223372036854775808 ≤ rN n d ∧ rN n d ≤ 9223372036854775807 ∧ rD n d ≤ 9223372036854775807)

theorem div_bd {a g : Int} (h0 : 0 ≤ a) (hg : 0 < g) : 0 ≤ a / g ∧ a / g ≤ a :=
  ⟨Int.ediv_nonneg h0 (by omega), Int.ediv_le_self _ h0⟩

theorem sgf (u : Int) : sg false u = u := rfl

end Go.Proofs.Ytpfdoifkimjlbaa

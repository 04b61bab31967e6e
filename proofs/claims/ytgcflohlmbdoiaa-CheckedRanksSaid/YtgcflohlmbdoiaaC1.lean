/- THE CONTRACTS of package checked's small functions: size, signed, product, Add, Sub, Mul, sign: each returns what YtgcflohlmbdoiaaM's words say. -/
import Derived.Test.YtgcflohlmbdoiaaM
import Derived.Test.YtgcflohlmbdoiaaShelf
import Derived.Below
import Derived.WalkKit
import Derived.WalkSpells
import Derived.WalkLawsBesides
import Derived.KernelRfl
import Derived.Laws.BitsLemmas
import Derived.Deep.QuietTactic
import Derived.BigQuiet
import Derived.Outline
import Derived.Lib.Hide
namespace Go.Proofs.Ytgcflohlmbdoiaa
open Go.RowKit M
set_option linter.unusedVariables false
set_option linter.unusedSimpArgs false

theorem ret_int {k : IntKind} {a b : Int} (h : a = b) : Ending.returned (.int k a) = .returned (.int k b) := by rw [h]
theorem ret_two {k l : IntKind} {a b c d : Int} (h : a = b) (h' : c = d) : Ending.returned (.tuple #[.int k a, .int l c]) = .returned (.tuple #[.int k b, .int l d]) := by rw [h, h']

theorem bcell {W w1 : World} (hb : Below W.heap.size W w1) : (∀ b o, b < W.heap.size → w1.cell? ⟨b, o, none⟩ = W.cell? ⟨b, o, none⟩) ∧ (∀ b o, b < W.heap.size → w1.frozen? ⟨b, o, none⟩ = W.frozen? ⟨b, o, none⟩) :=
  ⟨fun b o h => hb.cell (p := ⟨b, o, none⟩) h, fun b o h => hb.frozen (p := ⟨b, o, none⟩) h⟩

theorem size_any (a : Int) (w : World) (h0 : -9223372036854775808 ≤ a) (h1 : a ≤ 9223372036854775807) :
    Calls Try.prog 38 #[.int .i64 a] w fun e w' => e = .returned (.int .u64 (mg a)) ∧ w = w' := by
  by_cases hn : a < 0
  · go_enter Try.func38, Try.ntmps38
    go_wp2
    go_ret
    exact ⟨ret_int (by rw [mg_neg hn]; simp only [IntKind.wrap_u64]; omega), rfl⟩
  · go_enter Try.func38, Try.ntmps38
    go_wp2
    go_ret
    exact ⟨ret_int (by rw [mg_pos (by omega)]), rfl⟩

theorem signed_any (n : Bool) (u : Int) (w : World) (h0 : 0 ≤ u) (h1 : u ≤ 18446744073709551615) :
    Calls Try.prog 35 #[.bool n, .int .u64 u] w fun e w' => e = .returned (.tuple #[.int .i64 (vo (sg n u)), .int .i64 (eo (sg n u))]) ∧ w = w' := by
  cases n
  · by_cases h : u ≤ 9223372036854775807
    · go_enter Try.func35, Try.ntmps35
      go_wp2
      go_ret2
      exact ⟨ret_two (by simp only [sg]; rw [vo_in] <;> simp <;> omega) (by simp only [sg]; rw [eo_in] <;> simp <;> omega), rfl⟩
    · go_enter Try.func35, Try.ntmps35
      go_wp2
      go_ret2
      exact ⟨ret_two (by simp only [sg]; rw [vo_out]; simp; omega) (by simp only [sg]; rw [eo_out]; simp; omega), rfl⟩
  · by_cases h : u ≤ 9223372036854775808
    · go_enter Try.func35, Try.ntmps35
      go_wp2
      go_ret2
      have e : wrap64 (-wrap64 u) = -u := by unfold wrap64; omega
      exact ⟨ret_two (by show wrap64 (-wrap64 u) = vo (sg true u); rw [e]; simp only [sg, if_true]; rw [vo_in (by omega) (by omega)]) (by simp only [sg, if_true]; rw [eo_in (by omega) (by omega)]), rfl⟩
    · go_enter Try.func35, Try.ntmps35
      go_wp2
      go_ret2
      exact ⟨ret_two (by simp only [sg]; rw [vo_out]; simp; omega) (by simp only [sg]; rw [eo_out]; simp; omega), rfl⟩

theorem add_any (a b : Int) (w : World) (h0 : -9223372036854775808 ≤ a) (h1 : a ≤ 9223372036854775807) (h2 : -9223372036854775808 ≤ b) (h3 : b ≤ 9223372036854775807) :
    Calls Try.prog 20 #[.int .i64 a, .int .i64 b] w fun e w' => e = .returned (.tuple #[.int .i64 (vo (a + b)), .int .i64 (eo (a + b))]) ∧ w = w' := by
  have ht := add_test a b h0 h1 h2 h3
  have H := Lib.hid ht
  clear ht
  go_enter Try.func20, Try.ntmps20
  go_wp2
  · go_ret2
    have hh := H.out.1 (by assumption)
    exact ⟨ret_two (vo_out hh).symm (eo_out hh).symm, rfl⟩
  · go_ret2
    have hh : ¬ (a + b < -9223372036854775808 ∨ 9223372036854775807 < a + b) := fun q => absurd (H.out.2 q) (by omega)
    exact ⟨ret_two (by rw [vo_in (by omega) (by omega)]; exact wrap64_in (by omega) (by omega)) (eo_in (by omega) (by omega)).symm, rfl⟩

theorem sub_any (a b : Int) (w : World) (h0 : -9223372036854775808 ≤ a) (h1 : a ≤ 9223372036854775807) (h2 : -9223372036854775808 ≤ b) (h3 : b ≤ 9223372036854775807) :
    Calls Try.prog 22 #[.int .i64 a, .int .i64 b] w fun e w' => e = .returned (.tuple #[.int .i64 (vo (a - b)), .int .i64 (eo (a - b))]) ∧ w = w' := by
  have ht := sub_test a b h0 h1 h2 h3
  have H := Lib.hid ht
  clear ht
  go_enter Try.func22, Try.ntmps22
  go_wp2
  · go_ret2
    have hh := H.out.1 (by assumption)
    exact ⟨ret_two (vo_out hh).symm (eo_out hh).symm, rfl⟩
  · go_ret2
    have hh : ¬ (a - b < -9223372036854775808 ∨ 9223372036854775807 < a - b) := fun q => absurd (H.out.2 q) (by omega)
    exact ⟨ret_two (by rw [vo_in (by omega) (by omega)]; exact wrap64_in (by omega) (by omega)) (eo_in (by omega) (by omega)).symm, rfl⟩

theorem mul64_any (x y : Int) (w : World) (h0 : 0 ≤ x) (h1 : x ≤ 18446744073709551615) (h2 : 0 ≤ y) (h3 : y ≤ 18446744073709551615) :
    Calls Try.prog 51 #[.int .u64 x, .int .u64 y] w fun e w' => e = .returned (.tuple #[.int .u64 (x * y / 18446744073709551616), .int .u64 (x * y % 18446744073709551616)]) ∧ w = w' := by
  obtain ⟨a, rfl⟩ := Int.eq_ofNat_of_zero_le h0
  obtain ⟨b, rfl⟩ := Int.eq_ofNat_of_zero_le h2
  refine (Try.bits_Mul64 a b (by omega) (by omega) w).mono ?_
  rintro e w' ⟨rfl, rfl⟩
  have e1 : ((a * b / 18446744073709551616 : Nat) : Int) = (a : Int) * b / 18446744073709551616 := by omega
  have e2 : ((a * b % 18446744073709551616 : Nat) : Int) = (a : Int) * b % 18446744073709551616 := by omega
  exact ⟨by rw [e1, e2], rfl⟩

theorem product_any (a b : Int) (w : World) (h0 : -9223372036854775808 ≤ a) (h1 : a ≤ 9223372036854775807) (h2 : -9223372036854775808 ≤ b) (h3 : b ≤ 9223372036854775807) :
    Calls Try.prog 33 #[.int .i64 a, .int .i64 b] w fun e w' => e = .returned (.agg #[.int .u64 (mg a * mg b / 18446744073709551616), .int .u64 (mg a * mg b % 18446744073709551616)]) ∧ Below w.heap.size w w' := by
  have a1 := mg_nonneg a
  have a2 := mg_le h0 h1
  have b1 := mg_nonneg b
  have b2 := mg_le h2 h3
  go_enter Try.func33, Try.ntmps33
  go_wp2_with (first | (go_at_call 38; refine (size_any _ _ (by omega) (by omega)).mono ?_; rintro e w' ⟨rfl, rfl⟩) | (go_at_call 51; refine (mul64_any _ _ _ (by omega) (by omega) (by omega) (by omega)).mono ?_; rintro e w' ⟨rfl, rfl⟩))
  refine bodyPost_ret (v := .agg #[.int .u64 (mg a * mg b / 18446744073709551616), .int .u64 (mg a * mg b % 18446744073709551616)]) (by simp [results, Try.results33, go_sem]) rfl ⟨rfl, ?_⟩
  exact (Below.refl _ _).alloc (Nat.le_refl _) _

theorem mul_any (a b : Int) (w : World) (h0 : -9223372036854775808 ≤ a) (h1 : a ≤ 9223372036854775807) (h2 : -9223372036854775808 ≤ b) (h3 : b ≤ 9223372036854775807) :
    Calls Try.prog 21 #[.int .i64 a, .int .i64 b] w fun e w' => e = .returned (.tuple #[.int .i64 (vo (a * b)), .int .i64 (eo (a * b))]) ∧ Below w.heap.size w w' := by
  have a1 := mg_nonneg a
  have a2 := mg_le h0 h1
  have b1 := mg_nonneg b
  have b2 := mg_le h2 h3
  have hp := mul_bd a1 a2 b1 b2
  have HM := Lib.hid (neg_mul_mg a b)
  by_cases hz : mg a * mg b / 18446744073709551616 = 0
  · have hz' : (mg a * mg b / 18446744073709551616 != 0) = false := by simp [hz]
    have HP := Lib.hid hp
    have HZ := Lib.hid hz
    clear hp hz
    go_enter Try.func21, Try.ntmps21
    go_wp2_with (first | (go_at_call 33; refine (product_any _ _ _ (by omega) (by omega) (by omega) (by omega)).mono ?_; rintro e w1 ⟨rfl, hb1⟩) | (go_at_call 35; refine (signed_any _ _ _ (by omega) (by omega)).mono ?_; rintro e w' ⟨rfl, rfl⟩))
    go_ret2
    have e : sg (!(decide (a < 0) == decide (b < 0))) (mg a * mg b % 18446744073709551616) = a * b := mul_fits HM.out HP.out.1 HZ.out
    exact ⟨ret_two (congrArg vo e) (congrArg eo e), hb1.trans (((Below.refl _ _).alloc (hb1.size) _))⟩
  · have hz' : (mg a * mg b / 18446744073709551616 != 0) = true := by simp [hz]
    have HP := Lib.hid hp
    have HZ := Lib.hid hz
    clear hp hz
    go_enter Try.func21, Try.ntmps21
    go_wp2_with (first | (go_at_call 33; refine (product_any _ _ _ (by omega) (by omega) (by omega) (by omega)).mono ?_; rintro e w1 ⟨rfl, hb1⟩) | (go_at_call 35; refine (signed_any _ _ _ (by omega) (by omega)).mono ?_; rintro e w' ⟨rfl, rfl⟩))
    go_ret2
    have e := mul_over HM.out HP.out.1 HZ.out
    exact ⟨ret_two (vo_out e).symm (eo_out e).symm, hb1.trans (((Below.refl _ _).alloc (hb1.size) _))⟩

/-! ### sign, gcd -/
def sn (a : Int) : Int := if a < 0 then -1 else if 0 < a then 1 else 0

theorem cmp64_any (a b : Int) (w : World) :
    Calls Try.prog 55 #[.int .i64 a, .int .i64 b] w fun e w' => e = .returned (.int .i64 (sn (a - b))) ∧ w = w' := by
  rcases Int.lt_trichotomy a b with h | h | h
  all_goals
    go_enter Try.func55, Try.ntmps55
    go_wp2
    go_ret
    exact ⟨ret_int (by unfold sn; split <;> first | omega | (split <;> omega)), rfl⟩

theorem sign_any (a : Int) (w : World) :
    Calls Try.prog 44 #[.int .i64 a] w fun e w' => e = .returned (.int .i64 (sn a)) ∧ w = w' := by
  go_enter Try.func44, Try.ntmps44
  go_wp2_with (go_at_call 55; refine (cmp64_any _ _ _).mono ?_; rintro e w' ⟨rfl, rfl⟩)
  go_ret
  exact ⟨ret_int (by simp), rfl⟩

theorem cmpu_any (a b : Int) (w : World) :
    Calls Try.prog 46 #[.int .u64 a, .int .u64 b] w fun e w' => e = .returned (.int .i64 (sn (a - b))) ∧ w = w' := by
  rcases Int.lt_trichotomy a b with h | h | h
  all_goals
    go_enter Try.func46, Try.ntmps46
    go_wp2
    go_ret
    exact ⟨ret_int (by unfold sn; split <;> first | omega | (split <;> omega)), rfl⟩

theorem cmpi_any (a b : Int) (w : World) :
    Calls Try.prog 43 #[.int .i64 a, .int .i64 b] w fun e w' => e = .returned (.int .i64 (sn (a - b))) ∧ w = w' := by
  rcases Int.lt_trichotomy a b with h | h | h
  all_goals
    go_enter Try.func43, Try.ntmps43
    go_wp2
    go_ret
    exact ⟨ret_int (by unfold sn; split <;> first | omega | (split <;> omega)), rfl⟩

/-- The greatest common divisor of two numbers from 0 on. -/
def gd (a b : Int) : Int := Int.gcd a b
theorem gd_zero (a : Int) (h : 0 ≤ a) : gd a 0 = a := by unfold gd; simp; omega
theorem gd_step (a b : Int) (h0 : 0 ≤ a) (h : 0 < b) : gd b (a % b) = gd a b := by
  unfold gd
  obtain ⟨x, rfl⟩ := Int.eq_ofNat_of_zero_le h0
  obtain ⟨y, rfl⟩ := Int.eq_ofNat_of_zero_le (Int.le_of_lt h)
  show ((Int.gcd (y : Int) ((x % y : Nat) : Int) : Nat) : Int) = _
  simp only [Int.gcd_natCast_natCast]
  rw [Nat.gcd_comm x y, Nat.gcd_rec y x, Nat.gcd_comm]

theorem gcd_any (a b : Int) (w : World) (h0 : 0 ≤ a) (h1 : a ≤ 18446744073709551615) (h2 : 0 ≤ b) (h3 : b ≤ 18446744073709551615) :
    Calls Try.prog 39 #[.int .u64 a, .int .u64 b] w fun e w' => e = .returned (.int .u64 (gd a b)) ∧ Below w.heap.size w w' := by
  go_enter Try.func39, Try.ntmps39
  go_wp2
  go_loopw [0, 1] (fun u v wr => ∃ x y : Int, u = .int .u64 x ∧ v = .int .u64 y ∧ 0 ≤ x ∧ x ≤ 18446744073709551615 ∧ 0 ≤ y ∧ y ≤ 18446744073709551615 ∧ Hid (gd x y = gd a b) ∧ Below w.heap.size w wr) (fun _ v _ => (intOf v).toNat)
  case atStart => exact ⟨a, b, rfl, rfl, h0, h1, h2, h3, Lib.hid rfl, Below.refl _ _⟩
  case round =>
    obtain ⟨x, y, rfl, rfl, x0, x1, y0, y1, HG, hb⟩ := hrel
    by_cases hy : y = 0
    · subst hy
      go_wp2
      go_ret
      exact ⟨ret_int (by rw [← HG.out, gd_zero x x0]), hb⟩
    · have hy' : 0 < y := by omega
      have hyb : (y != 0) = true := by simp; omega
      have hm1 := Int.emod_nonneg x hy
      have hm2 := Int.emod_lt_of_pos x hy'
      have HG2 := Lib.hid ((gd_step x y x0 hy').trans HG.out)
      clear HG hy
      go_wp2
      go_quiet (fail)
      go_roundw
      case rel => first | exact ⟨y, x % y, rfl, rfl, y0, y1, hm1, by omega, HG2, below_drewN hb _⟩ | ((repeat apply Exists.intro); exact ⟨⟨y, x % y, rfl, rfl, y0, y1, hm1, by omega, HG2, below_drewN hb _⟩, rfl⟩)
      case measure => simp [intOf]; omega

theorem gd_pos {a b : Int} (h0 : 0 ≤ a) (h : 0 < b) : 0 < gd a b := by
  unfold gd
  have : 0 < Int.gcd a b := Int.gcd_pos_iff.2 (Or.inr (by omega))
  omega
theorem gd_le {a b : Int} (h0 : 0 ≤ a) (h : 0 < b) : gd a b ≤ b := by
  unfold gd
  exact Int.le_of_dvd h (Int.gcd_dvd_right _ _)

theorem signed_ok (n : Bool) (u : Int) (w : World) (h0 : 0 ≤ u) (h1 : u ≤ 18446744073709551615) (h2 : -9223372036854775808 ≤ sg n u) (h3 : sg n u ≤ 9223372036854775807) :
    Calls Try.prog 35 #[.bool n, .int .u64 u] w fun e w' => e = .returned (.tuple #[.int .i64 (sg n u), .int .i64 0]) ∧ w = w' := by
  refine (signed_any n u w h0 h1).mono ?_
  rintro e w' ⟨rfl, rfl⟩
  exact ⟨ret_two (vo_in h2 h3) (eo_in h2 h3), rfl⟩
theorem signed_over (n : Bool) (u : Int) (w : World) (h0 : 0 ≤ u) (h1 : u ≤ 18446744073709551615) (h2 : sg n u < -9223372036854775808 ∨ 9223372036854775807 < sg n u) :
    Calls Try.prog 35 #[.bool n, .int .u64 u] w fun e w' => e = .returned (.tuple #[.int .i64 0, .int .i64 7]) ∧ w = w' := by
  refine (signed_any n u w h0 h1).mono ?_
  rintro e w' ⟨rfl, rfl⟩
  exact ⟨ret_two (vo_out h2) (eo_out h2), rfl⟩

/-! ### Reduce -/
def rN (n d : Int) : Int := sg (!(decide (n < 0) == decide (d < 0))) (mg n / gd (mg n) (mg d))
def rD (n d : Int) : Int := mg d / gd (mg n) (mg d)
def rfit (n d : Int) : Bool := decide (-9223372036854775808 ≤ rN n d ∧ rN n d ≤ 9223372036854775807 ∧ rD n d ≤ 9223372036854775807)

theorem reduce_zero (n : Int) (w : World) : Calls Try.prog 18 #[.int .i64 n, .int .i64 0] w fun e w' => e = .returned (.tuple #[.agg #[.int .i64 0, .int .i64 0], .int .i64 2]) ∧ Below w.heap.size w w' := by
  go_enter Try.func18, Try.ntmps18
  go_wp2
  refine bodyPost_ret (v := .tuple #[.agg #[.int .i64 0, .int .i64 0], .int .i64 2]) (by simp [results, Try.results18, go_sem]) rfl ⟨rfl, ?_⟩
  exact (Below.refl _ _).alloc (Nat.le_refl _) _

theorem div_bd {a g : Int} (h0 : 0 ≤ a) (hg : 0 < g) : 0 ≤ a / g ∧ a / g ≤ a :=
  ⟨Int.ediv_nonneg h0 (by omega), Int.ediv_le_self _ h0⟩

theorem sgf (u : Int) : sg false u = u := rfl

set_option maxHeartbeats 400000 in
theorem reduce_ok (n d : Int) (w : World) (h0 : -9223372036854775808 ≤ n) (h1 : n ≤ 9223372036854775807) (h2 : -9223372036854775808 ≤ d) (h3 : d ≤ 9223372036854775807) (hd : d ≠ 0) (hf : rfit n d = true) :
    Calls Try.prog 18 #[.int .i64 n, .int .i64 d] w fun e w' => e = .returned (.tuple #[.agg #[.int .i64 (rN n d), .int .i64 (rD n d)], .int .i64 0]) ∧ Below w.heap.size w w' := by
  have a1 := mg_nonneg n
  have a2 := mg_le h0 h1
  have b1 := mg_nonneg d
  have b2 := mg_le h2 h3
  have b3 : 0 < mg d := by have := mt mg_zero.1 hd; omega
  have hdb : (d == 0) = false := by simp; omega
  have g1 := gd_pos a1 b3
  have g2 := gd_le a1 b3
  have q1 := div_bd a1 g1
  have q2 := div_bd b1 g1
  obtain ⟨f1, f2, f3⟩ := of_decide_eq_true hf
  unfold rN at f1 f2
  unfold rD at f3
  have Q1 := Lib.hid q1
  have Q2 := Lib.hid q2
  clear hd q1 q2 hf
  go_enter Try.func18, Try.ntmps18
  go_wp2_with (first | (go_at_call 38; refine (size_any _ _ (by omega) (by omega)).mono ?_; rintro e w' ⟨rfl, rfl⟩) | (go_at_call 39; refine (gcd_any _ _ _ (by omega) (by omega) (by omega) (by omega)).mono ?_; rintro e w1 ⟨rfl, hb1⟩; obtain ⟨hc1, hf1⟩ := bcell hb1) | (go_at_call 35; refine (signed_ok _ _ _ (by have := Q1.out; have := Q2.out; omega) (by have := Q1.out; have := Q2.out; omega) (by have := Q1.out; have := Q2.out; first | omega | (simp only [sgf]; omega)) (by have := Q1.out; have := Q2.out; first | omega | (simp only [sgf]; omega))).mono ?_; rintro e w' ⟨rfl, rfl⟩))
  refine bodyPost_ret (v := .tuple #[.agg #[.int .i64 (sg (!(decide (n < 0) == decide (d < 0))) (mg n / gd (mg n) (mg d))), .int .i64 (sg false (mg d / gd (mg n) (mg d)))], .int .i64 0]) (by simp [results, Try.results18, go_sem, hc1, hf1]) rfl ⟨rfl, ?_⟩
  exact ((((Below.refl _ _).alloc (Nat.le_refl _) _).trans (hb1.mono (by simp))).setCell (Nat.le_refl _) _).setCell (Nat.le_refl _) _

set_option maxHeartbeats 400000 in
theorem reduce_over (n d : Int) (w : World) (h0 : -9223372036854775808 ≤ n) (h1 : n ≤ 9223372036854775807) (h2 : -9223372036854775808 ≤ d) (h3 : d ≤ 9223372036854775807) (hd : d ≠ 0) (hf : rfit n d = false) :
    Calls Try.prog 18 #[.int .i64 n, .int .i64 d] w fun e w' => e = .returned (.tuple #[.agg #[.int .i64 0, .int .i64 0], .int .i64 7]) ∧ Below w.heap.size w w' := by
  have a1 := mg_nonneg n
  have a2 := mg_le h0 h1
  have b1 := mg_nonneg d
  have b2 := mg_le h2 h3
  have b3 : 0 < mg d := by have := mt mg_zero.1 hd; omega
  have hdb : (d == 0) = false := by simp; omega
  have g1 := gd_pos a1 b3
  have g2 := gd_le a1 b3
  have q1 := div_bd a1 g1
  have q2 := div_bd b1 g1
  have ff := of_decide_eq_false hf
  unfold rN rD at ff
  have Q1 := Lib.hid q1
  have Q2 := Lib.hid q2
  have F := Lib.hid ff
  clear hd q1 q2 hf ff
  have fin : ∀ (w1 : World), Below (w.alloc (Obj.cells #[Value.int IntKind.i64 0, Value.int IntKind.i64 0] 32)).heap.size (w.alloc (Obj.cells #[Value.int IntKind.i64 0, Value.int IntKind.i64 0] 32)) w1 → Below w.heap.size w ((w1.setCell { block := w.heap.size, off := 0 } (.int .i64 0)).setCell { block := w.heap.size, off := 1 } (.int .i64 0)) :=
    fun w1 hb1 => ((((Below.refl _ _).alloc (Nat.le_refl _) _).trans (hb1.mono (by simp))).setCell (Nat.le_refl _) _).setCell (Nat.le_refl _) _
  have FIN := Lib.hid fin
  clear fin
  by_cases hN : -9223372036854775808 ≤ sg (!(decide (n < 0) == decide (d < 0))) (mg n / gd (mg n) (mg d)) ∧ sg (!(decide (n < 0) == decide (d < 0))) (mg n / gd (mg n) (mg d)) ≤ 9223372036854775807
  · have N := Lib.hid hN
    have F2 : Hid (sg false (mg d / gd (mg n) (mg d)) < -9223372036854775808 ∨ 9223372036854775807 < sg false (mg d / gd (mg n) (mg d))) := by
      have := F.out; simp only [sgf]; show _ ∨ _; omega
    clear hN
    go_enter Try.func18, Try.ntmps18
    go_wp2_with fail
    refine (size_any _ _ (by omega) (by omega)).mono ?_
    rintro e w' ⟨rfl, rfl⟩
    go_wp2_with fail
    refine (size_any _ _ (by omega) (by omega)).mono ?_
    rintro e w' ⟨rfl, rfl⟩
    go_wp2_with fail
    refine (gcd_any _ _ _ (by omega) (by omega) (by omega) (by omega)).mono ?_
    rintro e w1 ⟨rfl, hb1⟩
    obtain ⟨hc1, hf1⟩ := bcell hb1
    go_wp2_with fail
    refine (signed_ok _ _ _ (by have := Q1.out; omega) (by have := Q1.out; omega) N.out.1 N.out.2).mono ?_
    rintro e w' ⟨rfl, rfl⟩
    go_wp2_with fail
    refine (signed_over _ _ _ (by have := Q2.out; omega) (by have := Q2.out; omega) F2.out).mono ?_
    rintro e w' ⟨rfl, rfl⟩
    go_wp2
    exact bodyPost_ret (v := .tuple #[.agg #[.int .i64 0, .int .i64 0], .int .i64 7]) (by simp [results, Try.results18, go_sem, hc1, hf1]) rfl ⟨rfl, FIN.out _ hb1⟩
  · have f1 : sg (!(decide (n < 0) == decide (d < 0))) (mg n / gd (mg n) (mg d)) < -9223372036854775808 ∨ 9223372036854775807 < sg (!(decide (n < 0) == decide (d < 0))) (mg n / gd (mg n) (mg d)) := by omega
    have F1 := Lib.hid f1
    clear hN f1
    go_enter Try.func18, Try.ntmps18
    go_wp2_with fail
    refine (size_any _ _ (by omega) (by omega)).mono ?_
    rintro e w' ⟨rfl, rfl⟩
    go_wp2_with fail
    refine (size_any _ _ (by omega) (by omega)).mono ?_
    rintro e w' ⟨rfl, rfl⟩
    go_wp2_with fail
    refine (gcd_any _ _ _ (by omega) (by omega) (by omega) (by omega)).mono ?_
    rintro e w1 ⟨rfl, hb1⟩
    obtain ⟨hc1, hf1⟩ := bcell hb1
    go_wp2_with fail
    refine (signed_over _ _ _ (by have := Q1.out; omega) (by have := Q1.out; omega) F1.out).mono ?_
    rintro e w' ⟨rfl, rfl⟩
    go_wp2_with fail
    refine (signed_any _ _ _ (by have := Q2.out; omega) (by have := Q2.out; omega)).mono ?_
    rintro e w' ⟨rfl, rfl⟩
    go_wp2
    exact bodyPost_ret (v := .tuple #[.agg #[.int .i64 0, .int .i64 0], .int .i64 7]) (by simp [results, Try.results18, go_sem, hc1, hf1]) rfl ⟨rfl, FIN.out _ hb1⟩

end Go.Proofs.Ytgcflohlmbdoiaa

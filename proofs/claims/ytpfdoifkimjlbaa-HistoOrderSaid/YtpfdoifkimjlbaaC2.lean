/- bits.Div64 by the contract of division, and package checked's MulDiv. -/
import Derived.Test.YtpfdoifkimjlbaaC1
import Derived.Test.YtpfdoifkimjlbaaM2
import Derived.Deep.DeepCutAuto
import Derived.Deep.CutBlock
import Derived.Deep.LoopGhost
namespace Go.Proofs.Ytpfdoifkimjlbaa
open Go.RowKit M Go.Shelf
set_option linter.unusedVariables false
set_option linter.unusedSimpArgs false

theorem lz_s (y : Int) (s : Nat) (w : World) (h0 : 0 ≤ y) (h1 : y ≤ 18446744073709551615) (hs : (64 : Int) - (Lib.bitLen y.toNat : Int) = s) :
    Calls Try.prog 62 #[.int .u64 y] w fun e w' => e = .returned (.int .i64 s) ∧ w = w' := by
  refine (Try.bits_LeadingZeros64 y w h0 h1).mono ?_
  rintro e w' ⟨rfl, rfl⟩
  exact ⟨ret_int hs, rfl⟩

set_option maxRecDepth 100000 in
set_option maxHeartbeats 1000000 in
theorem div64_walk (hi lo y : Int) (w : World) (h0 : 0 < hi) (h1 : hi < y) (h2 : 0 ≤ lo) (h3 : lo ≤ 18446744073709551615) (h4 : y ≤ 18446744073709551615)
    (s : Nat) (hs : (64 : Int) - (Lib.bitLen y.toNat : Int) = s) (hs1 : s ≤ 63) (P R D H T L v u a b c e : Int) (hP : (2 : Int) ^ s = P) (hR : (2 : Int) ^ (64 - s) = R)
    (hD : y * P = D) (hH : hi * P = H) (hT : lo / R = T) (hL : lo * P = L) (hv : IntKind.u64.wrap L = v) (hu : bits .or .u64 H T = u) (ha : D / 4294967296 = a) (hb : bits .and .u64 D 4294967295 = b)
    (hc : v / 4294967296 = c) (he : bits .and .u64 v 4294967295 = e) (D0 : 9223372036854775808 ≤ D) (D1 : D ≤ 18446744073709551615) (H0 : 0 ≤ H) (H1 : H ≤ 18446744073709551615) (T0 : 0 ≤ T) (T1 : T ≤ 18446744073709551615)
    (u0 : 0 ≤ u) (u1 : u < D) (a0 : 2147483648 ≤ a) (a1 : a < 4294967296) (b0 : 0 ≤ b) (b1 : b < 4294967296) (c0 : 0 ≤ c) (c1 : c < 4294967296) (e0 : 0 ≤ e) (e1 : e < 4294967296)
    (q : Int) (hq : u.tdiv a = q) (q0 : 0 ≤ q) (q1 : q ≤ 4294967297) (m : Int) (hm : q * a = m) (m0 : 0 ≤ m) (m1 : m ≤ u) (HE : Hid (a * 4294967296 + b = D)) (HF : Hid (c * 4294967296 + e = v)) (NP : Hid (u * 18446744073709551616 + v = (hi * 18446744073709551616 + lo) * P)) (Pp : 0 < P) :
    Calls Try.prog 54 #[.int .u64 hi, .int .u64 lo, .int .u64 y] w fun e w' => e = .returned (.tuple #[.int .u64 ((hi * 18446744073709551616 + lo) / y), .int .u64 ((hi * 18446744073709551616 + lo) % y)]) ∧ Below w.heap.size w w' := by
  have HS := Lib.hid hs
  clear hs
  have s0 : (0 : Int) ≤ s := by omega
  have s1 : (s : Int) ≤ 63 := by omega
  have v0 : 0 ≤ v := by subst hv; simp only [IntKind.wrap_u64]; omega
  have v1 : v ≤ 18446744073709551615 := by subst hv; simp only [IntKind.wrap_u64]; omega
  go_enter Try.func54, Try.ntmps54
  go_wp2_with fail
  refine (lz_s _ s _ (by omega) (by omega) HS.out).mono ?_
  rintro e w' ⟨rfl, rfl⟩
  have hd := dig_first (by omega : 0 ≤ u) c0 c1 a0 a1 b0 b1 (by have := HE.out; omega : u < a * 4294967296 + b)
  have hqu : u / a = q := by rw [← hq, Int.tdiv_eq_ediv_of_nonneg u0]
  rw [hqu, hm] at hd
  obtain ⟨d1, -, d2, d3, -⟩ := hd
  have HQ : Hid ((u * 4294967296 + c) / (a * 4294967296 + b) ≤ q) := d1
  have HM := Lib.hid hm
  clear d1 hqu
  go_upto_block 0 with fail
  have HD := Lib.hid hD
  clear hR hD hH hT hL hv hu ha hb hc he hq hm HS
  go_cut [15, 16] (fun v15 v16 wc => ∃ r : Int, v15 = .int .u64 ((u * 4294967296 + c) / (a * 4294967296 + b)) ∧ v16 = .int .u64 r ∧ w = wc)
  case first =>
    go_wp2
    go_loop [15, 16] (fun x y => ∃ q r : Int, x = .int .u64 q ∧ y = .int .u64 r ∧ 0 ≤ q ∧ q ≤ 4294967297 ∧ 0 ≤ r ∧ r < 4294967296 ∧ Hid (q * a + r = u) ∧ Hid ((u * 4294967296 + c) / (a * 4294967296 + b) ≤ q)) (fun x _ => (intOf x).toNat)
    case atStart => exact ⟨q, u - m, rfl, rfl, q0, q1, d2, by omega, Lib.hid (by rw [HM.out]; omega), HQ⟩
    case round =>
      clear HM HQ q0 q1 m0 m1 d2 d3
      obtain ⟨q, r, rfl, rfl, q0, q1, r0, r1, X1, X2⟩ := hrel
      have hDp : 0 < a * 4294967296 + b := by omega
      have hul : u < a * 4294967296 + b := by have := HE.out; omega
      by_cases t1 : 4294967296 ≤ q
      · have Y := Lib.hid (dig_more (by omega) c0 c1 X1.out hDp hul (Or.inl t1))
        by_cases t3 : 4294967296 ≤ r + a
        · have Z := Lib.hid (dig_break (q := q - 1) (r := r + a) c0 b0 b1 (by rw [Int.sub_mul, Int.one_mul]; have := X1.out; omega) hDp t3 (by omega) (by omega) Y.out)
          go_wp2
          go_meet
          case rel => exact ⟨_, by rw [← Z.out], rfl, rfl⟩
        · go_wp2
          go_round
          case rel => exact ⟨q - 1, r + a, rfl, rfl, by omega, by omega, by omega, by omega, Lib.hid (by rw [Int.sub_mul, Int.one_mul]; have := X1.out; omega), Y⟩
          case measure => simp [intOf]; omega
      · have pb := mul_bd q0 (show q ≤ 4294967295 by omega) b0 (show b ≤ 4294967295 by omega)
        obtain ⟨p, hp⟩ : ∃ p, q * b = p := ⟨_, rfl⟩
        rw [hp] at pb
        obtain ⟨p0, p1⟩ := pb
        have t1' : decide (4294967296 ≤ q) = false := by simpa using t1
        by_cases t2 : 4294967296 * r + c < p
        · have q3 : 1 ≤ q := by
            rcases Int.lt_or_le q 1 with h | h
            · obtain rfl : q = 0 := by omega
              rw [Int.zero_mul] at hp
              omega
            · exact h
          have Y := Lib.hid (dig_more (by omega) c0 c1 X1.out hDp hul (Or.inr (by rw [hp]; exact t2)))
          by_cases t3 : 4294967296 ≤ r + a
          · have Z := Lib.hid (dig_break (q := q - 1) (r := r + a) c0 b0 b1 (by rw [Int.sub_mul, Int.one_mul]; have := X1.out; omega) hDp t3 (by omega) (by omega) Y.out)
            go_wp2
            go_meet
            case rel => exact ⟨_, by rw [← Z.out], rfl, rfl⟩
          · go_wp2
            go_round
            case rel => exact ⟨q - 1, r + a, rfl, rfl, by omega, by omega, by omega, by omega, Lib.hid (by rw [Int.sub_mul, Int.one_mul]; have := X1.out; omega), Y⟩
            case measure => simp [intOf]; omega
        · have Z := Lib.hid (dig_done c0 X1.out hDp (by rw [hp]; omega) X2.out)
          go_wp2
          go_meet
          case rel => exact ⟨_, by rw [← Z.out], rfl, rfl⟩
  case rest =>
    clear HM HQ q0 q1 m0 m1 d2 d3
    obtain ⟨r, rfl, rfl, rfl⟩ := hcut
    have hDp : 0 < a * 4294967296 + b := by omega
    have hul : u < a * 4294967296 + b := by have := HE.out; omega
    have hX := dig_rest hDp (by have := HE.out; omega) u0 c0 hul
    have x0 := Int.emod_nonneg (u * 4294967296 + c) (show a * 4294967296 + b ≠ 0 by omega)
    have x1 := Int.emod_lt_of_pos (u * 4294967296 + c) hDp
    have HT := Lib.hid (dig_two u c e _ hDp e0)
    have g10 : 0 ≤ (u * 4294967296 + c) / (a * 4294967296 + b) := Int.ediv_nonneg (by omega) (by omega)
    have g11 : (u * 4294967296 + c) / (a * 4294967296 + b) < 4294967296 := Int.ediv_lt_of_lt_mul hDp (by omega)
    generalize hg1 : (u * 4294967296 + c) / (a * 4294967296 + b) = g1 at *
    generalize hx : (u * 4294967296 + c) % (a * 4294967296 + b) = x at *
    rw [HE.out] at hX
    have HG1 := Lib.hid hg1
    have HX := Lib.hid hx
    clear hg1 hx
    obtain ⟨q, hq⟩ : ∃ q, x / a = q := ⟨_, rfl⟩
    have hd := dig_first x0 e0 e1 a0 a1 b0 b1 x1
    rw [hq] at hd
    obtain ⟨m, hm⟩ : ∃ m, q * a = m := ⟨_, rfl⟩
    rw [hm] at hd
    obtain ⟨d1, q1, d2, d3, q0⟩ := hd
    have HQ : Hid ((x * 4294967296 + e) / (a * 4294967296 + b) ≤ q) := d1
    have HM := Lib.hid hm
    have xD : x < D := by have := HE.out; omega
    have hq' : x.tdiv a = q := by rw [← hq, Int.tdiv_eq_ediv_of_nonneg x0]
    have m0 : 0 ≤ m := by rw [← hm]; exact Int.mul_nonneg q0 (by omega)
    clear d1 x1
    go_upto_block 2 with fail
    clear hX hm hq hq'
    go_cut [18, 16] (fun v18 v16 wc => ∃ r : Int, v18 = .int .u64 ((x * 4294967296 + e) / (a * 4294967296 + b)) ∧ v16 = .int .u64 r ∧ w = wc)
    case first =>
      go_wp2
      go_loop [18, 16] (fun i j => ∃ q r : Int, i = .int .u64 q ∧ j = .int .u64 r ∧ 0 ≤ q ∧ q ≤ 4294967297 ∧ 0 ≤ r ∧ r < 4294967296 ∧ Hid (q * a + r = x) ∧ Hid ((x * 4294967296 + e) / (a * 4294967296 + b) ≤ q)) (fun x _ => (intOf x).toNat)
      case atStart => exact ⟨q, x - m, rfl, rfl, q0, q1, d2, by omega, Lib.hid (by rw [HM.out]; omega), HQ⟩
      case round =>
        clear HM HQ q0 q1 m0 d2 d3
        obtain ⟨q, r, rfl, rfl, q0, q1, r0, r1, X1, X2⟩ := hrel
        have hDp : 0 < a * 4294967296 + b := by omega
        have hul : x < a * 4294967296 + b := by have := HE.out; omega
        by_cases t1 : 4294967296 ≤ q
        · have Y := Lib.hid (dig_more (by omega) e0 e1 X1.out hDp hul (Or.inl t1))
          by_cases t3 : 4294967296 ≤ r + a
          · have Z := Lib.hid (dig_break (q := q - 1) (r := r + a) e0 b0 b1 (by rw [Int.sub_mul, Int.one_mul]; have := X1.out; omega) hDp t3 (by omega) (by omega) Y.out)
            go_wp2
            go_meet
            case rel => exact ⟨_, by rw [← Z.out], rfl, rfl⟩
          · go_wp2
            go_round
            case rel => exact ⟨q - 1, r + a, rfl, rfl, by omega, by omega, by omega, by omega, Lib.hid (by rw [Int.sub_mul, Int.one_mul]; have := X1.out; omega), Y⟩
            case measure => simp [intOf]; omega
        · have pb := mul_bd q0 (show q ≤ 4294967295 by omega) b0 (show b ≤ 4294967295 by omega)
          obtain ⟨p, hp⟩ : ∃ p, q * b = p := ⟨_, rfl⟩
          rw [hp] at pb
          obtain ⟨p0, p1⟩ := pb
          have t1' : decide (4294967296 ≤ q) = false := by simpa using t1
          by_cases t2 : 4294967296 * r + e < p
          · have q3 : 1 ≤ q := by
              rcases Int.lt_or_le q 1 with h | h
              · obtain rfl : q = 0 := by omega
                rw [Int.zero_mul] at hp
                omega
              · exact h
            have Y := Lib.hid (dig_more (by omega) e0 e1 X1.out hDp hul (Or.inr (by rw [hp]; exact t2)))
            by_cases t3 : 4294967296 ≤ r + a
            · have Z := Lib.hid (dig_break (q := q - 1) (r := r + a) e0 b0 b1 (by rw [Int.sub_mul, Int.one_mul]; have := X1.out; omega) hDp t3 (by omega) (by omega) Y.out)
              go_wp2
              go_meet
              case rel => exact ⟨_, by rw [← Z.out], rfl, rfl⟩
            · go_wp2
              go_round
              case rel => exact ⟨q - 1, r + a, rfl, rfl, by omega, by omega, by omega, by omega, Lib.hid (by rw [Int.sub_mul, Int.one_mul]; have := X1.out; omega), Y⟩
              case measure => simp [intOf]; omega
          · have Z := Lib.hid (dig_done e0 X1.out hDp (by rw [hp]; omega) X2.out)
            go_wp2
            go_meet
            case rel => exact ⟨_, by rw [← Z.out], rfl, rfl⟩
    case rest =>
      clear HM HQ q0 q1 m0 d2 d3
      obtain ⟨r2, rfl, rfl, rfl⟩ := hcut
      have hY := dig_rest hDp (by have := HE.out; omega) x0 e0 (by have := HE.out; omega)
      have hg0 : 0 ≤ (x * 4294967296 + e) / (a * 4294967296 + b) := Int.ediv_nonneg (by omega) (by omega)
      have hg9 : (x * 4294967296 + e) / (a * 4294967296 + b) < 4294967296 := Int.ediv_lt_of_lt_mul hDp (by have := HE.out; omega)
      have z0 := Int.emod_nonneg (x * 4294967296 + e) (show a * 4294967296 + b ≠ 0 by omega)
      have z1 := Int.emod_lt_of_pos (x * 4294967296 + e) hDp
      generalize hg2 : (x * 4294967296 + e) / (a * 4294967296 + b) = g2 at *
      generalize hz : (x * 4294967296 + e) % (a * 4294967296 + b) = z at *
      rw [HE.out] at hY
      have HZ := Lib.hid hz
      have HG2 := Lib.hid hg2
      clear hz hg2 z1
      go_wp2
      go_ret2
      have t := HT.out
      rw [HE.out, HF.out, NP.out, ← HD.out] at t
      have us := unscale (hi * 18446744073709551616 + lo) y P Pp
      rw [us.1] at t
      rw [← t.2] at z0
      exact ⟨ret_two t.1.symm (by show z / P = _; rw [← t.2]; exact us.2), Below.refl _ _ ⟩

theorem div64_any (hi lo y : Int) (w : World) (h0 : 0 ≤ hi) (h1 : hi < y) (h2 : 0 ≤ lo) (h3 : lo ≤ 18446744073709551615) (h4 : y ≤ 18446744073709551615) :
    Calls Try.prog 54 #[.int .u64 hi, .int .u64 lo, .int .u64 y] w fun e w' => e = .returned (.tuple #[.int .u64 ((hi * 18446744073709551616 + lo) / y), .int .u64 ((hi * 18446744073709551616 + lo) % y)]) ∧ Below w.heap.size w w' := by
  by_cases hz : hi = 0
  · subst hz
    have y0 : (y == 0) = false := by simp; omega
    have l1 := div_bd h2 (show 0 < y by omega)
    have l2 := Int.emod_nonneg lo (show y ≠ 0 by omega)
    have l3 := Int.emod_lt_of_pos lo (show 0 < y by omega)
    go_enter Try.func54, Try.ntmps54
    go_wp2
    go_quiet (fail)
    go_wp2
    go_ret2
    exact ⟨ret_two (by simp) (by simp), below_drewN (Below.refl _ _) _⟩
  · obtain ⟨s, hs⟩ : ∃ s : Nat, (64 : Int) - (Lib.bitLen y.toNat : Int) = s := by
      have := Any.bitLen_le64 y (by omega) h4
      exact ⟨64 - Lib.bitLen y.toNat, by omega⟩
    obtain ⟨p1, p2, p3, p4, p5, p6⟩ := bitLen_pow y (by omega) h4 s hs
    obtain ⟨n1, n2, n3, n4, n5⟩ := norm_parts hi lo y _ _ s h0 h1 h2 h3 p1 rfl p4 p5 p6 p3
    have v0 : 0 ≤ IntKind.u64.wrap (lo * 2 ^ s) ∧ IntKind.u64.wrap (lo * 2 ^ s) ≤ 18446744073709551615 := by simp only [IntKind.wrap_u64]; omega
    have t1 : lo / 2 ^ (64 - s) ≤ lo := Int.ediv_le_self _ h2
    have a0 : 2147483648 ≤ y * 2 ^ s / 4294967296 := by omega
    have dd := dig_first (u := hi * 2 ^ s + lo / 2 ^ (64 - s)) (c := 0) (a := y * 2 ^ s / 4294967296) (b := y * 2 ^ s % 4294967296) (by omega) (by omega) (by omega) a0 (by omega) (by omega) (by omega) (by omega)
    have m0 := Int.mul_nonneg dd.2.2.2.2 (show 0 ≤ y * 2 ^ s / 4294967296 by omega)
    refine div64_walk hi lo y w (by omega) h1 h2 h3 h4 s hs p1 (2 ^ s) (2 ^ (64 - s)) (y * 2 ^ s) (hi * 2 ^ s) (lo / 2 ^ (64 - s)) (lo * 2 ^ s) (IntKind.u64.wrap (lo * 2 ^ s)) (hi * 2 ^ s + lo / 2 ^ (64 - s)) (y * 2 ^ s / 4294967296) (y * 2 ^ s % 4294967296)
      (IntKind.u64.wrap (lo * 2 ^ s) / 4294967296) (IntKind.u64.wrap (lo * 2 ^ s) % 4294967296) rfl rfl rfl rfl rfl rfl rfl n4 rfl ?_ rfl ?_ p2 p3 n1 (by omega) n3 (by omega) (by omega) n2 a0 (by omega) (by omega) (by omega) (by omega) (by omega) (by omega) (by omega)
      ((hi * 2 ^ s + lo / 2 ^ (64 - s)) / (y * 2 ^ s / 4294967296)) ?_ dd.2.2.2.2 dd.2.1 _ rfl m0 (by omega) (Lib.hid (by omega)) (Lib.hid (by omega)) (Lib.hid n5) p5
    · rw [u64_and _ _ (by omega) (by omega) (by omega) (by omega), show (4294967295 : Int).toNat = 2 ^ 32 - 1 from rfl, Nat.and_two_pow_sub_one_eq_mod]; omega
    · rw [u64_and _ _ (by omega) (by omega) (by omega) (by omega), show (4294967295 : Int).toNat = 2 ^ 32 - 1 from rfl, Nat.and_two_pow_sub_one_eq_mod]; omega
    · exact Int.tdiv_eq_ediv_of_nonneg (by omega)

end Go.Proofs.Ytpfdoifkimjlbaa

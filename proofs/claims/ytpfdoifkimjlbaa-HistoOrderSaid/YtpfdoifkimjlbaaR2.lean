/- THE REFERENCE's integers: which magnitude is the greater one; sums. -/
import Derived.Test.YtpfdoifkimjlbaaR1
import Derived.Test.YtpfdoifkimjlbaaG
namespace Go.Proofs.Ytpfdoifkimjlbaa
open Go.RowKit M
set_option linter.unusedVariables false
set_option linter.unusedSimpArgs false

theorem hb_cell {B : Nat} {W w1 : World} (hb : Hid (Below B W w1)) : ∀ b o, b < B → w1.cell? ⟨b, o, none⟩ = W.cell? ⟨b, o, none⟩ := fun b o h => Below.cell (p := ⟨b, o, none⟩) hb h
theorem hb_frozen {B : Nat} {W w1 : World} (hb : Hid (Below B W w1)) : ∀ b o, b < B → w1.frozen? ⟨b, o, none⟩ = W.frozen? ⟨b, o, none⟩ := fun b o h => Below.frozen (p := ⟨b, o, none⟩) hb h

/-- The number of a magnitude's digits. -/
def mag6 (l0 l1 l2 l3 l4 l5 : Int) : Int := l0 + 4294967296 * l1 + 18446744073709551616 * l2 + 79228162514264337593543950336 * l3 + 340282366920938463463374607431768211456 * l4 + 1461501637330902918203684832716283019655932542976 * l5

set_option maxHeartbeats 4000000 in
theorem msize_any (a0 a1 a2 a3 a4 a5 b0 b1 b2 b3 b4 b5 : Int) (pa0 : 0 ≤ a0) (qa0 : a0 ≤ 4294967295) (pa1 : 0 ≤ a1) (qa1 : a1 ≤ 4294967295) (pa2 : 0 ≤ a2) (qa2 : a2 ≤ 4294967295) (pa3 : 0 ≤ a3) (qa3 : a3 ≤ 4294967295) (pa4 : 0 ≤ a4) (qa4 : a4 ≤ 4294967295) (pa5 : 0 ≤ a5) (qa5 : a5 ≤ 4294967295) (pb0 : 0 ≤ b0) (qb0 : b0 ≤ 4294967295) (pb1 : 0 ≤ b1) (qb1 : b1 ≤ 4294967295) (pb2 : 0 ≤ b2) (qb2 : b2 ≤ 4294967295) (pb3 : 0 ≤ b3) (qb3 : b3 ≤ 4294967295) (pb4 : 0 ≤ b4) (qb4 : b4 ≤ 4294967295) (pb5 : 0 ≤ b5) (qb5 : b5 ≤ 4294967295) (w : World) :
    Calls Try.prog 68 #[.agg #[.int .u64 a0, .int .u64 a1, .int .u64 a2, .int .u64 a3, .int .u64 a4, .int .u64 a5], .agg #[.int .u64 b0, .int .u64 b1, .int .u64 b2, .int .u64 b3, .int .u64 b4, .int .u64 b5]] w
      fun e w' => e = .returned (.int .i64 (sn (mag6 a0 a1 a2 a3 a4 a5 - mag6 b0 b1 b2 b3 b4 b5))) ∧ Below w.heap.size w w' := by
  rcases Int.lt_trichotomy a5 b5 with h5 | h5 | h5
  · have HS : Hid (sn (mag6 a0 a1 a2 a3 a4 a5 - mag6 b0 b1 b2 b3 b4 b5) = -1) := sn_neg (by unfold mag6; omega)
    have g5 : decide (a5 < b5) = true := decide_eq_true h5
    go_enter Try.func68, Try.ntmps68
    go_wp2
    refine wp_loop_rounds 7 ?_
    rw [rounds_succ]
    go_wp2
    go_quiet (fail)
    go_wp2
    go_ret
    exact ⟨ret_int (by rw [HS.out]), by repeat (first | (with_reducible exact Below.refl _ _) | (with_reducible refine below_drewN ?_ _) | (with_reducible refine Below.setCell ?_ ?_ _) | (with_reducible refine Below.alloc ?_ ?_ _) | (with_reducible refine Below.drew ?_) | (with_reducible exact Nat.le_refl _) | (with_reducible refine le_al ?_ _) | (with_reducible refine le_sc ?_ _ _) | (with_reducible refine le_dn ?_ _) | (with_reducible refine Nat.le_add_right_of_le ?_) | dsimp only)⟩
  rotate_left
  · have HS : Hid (sn (mag6 a0 a1 a2 a3 a4 a5 - mag6 b0 b1 b2 b3 b4 b5) = 1) := sn_pos (by unfold mag6; omega)
    go_enter Try.func68, Try.ntmps68
    go_wp2
    refine wp_loop_rounds 7 ?_
    rw [rounds_succ]
    go_wp2
    go_quiet (fail)
    go_wp2
    go_quiet (fail)
    go_wp2
    go_ret
    exact ⟨ret_int (by rw [HS.out]), by repeat (first | (with_reducible exact Below.refl _ _) | (with_reducible refine below_drewN ?_ _) | (with_reducible refine Below.setCell ?_ ?_ _) | (with_reducible refine Below.alloc ?_ ?_ _) | (with_reducible refine Below.drew ?_) | (with_reducible exact Nat.le_refl _) | (with_reducible refine le_al ?_ _) | (with_reducible refine le_sc ?_ _ _) | (with_reducible refine le_dn ?_ _) | (with_reducible refine Nat.le_add_right_of_le ?_) | dsimp only)⟩
  subst h5
  rcases Int.lt_trichotomy a4 b4 with h4 | h4 | h4
  · have HS : Hid (sn (mag6 a0 a1 a2 a3 a4 a5 - mag6 b0 b1 b2 b3 b4 a5) = -1) := sn_neg (by unfold mag6; omega)
    have g4 : decide (a4 < b4) = true := decide_eq_true h4
    go_enter Try.func68, Try.ntmps68
    go_wp2
    refine wp_loop_rounds 7 ?_
    rw [rounds_succ]
    go_wp2
    go_quiet (fail)
    go_wp2
    go_quiet (fail)
    go_wp2
    rw [rounds_succ]
    go_wp2
    go_quiet (fail)
    go_wp2
    go_ret
    exact ⟨ret_int (by rw [HS.out]), by repeat (first | (with_reducible exact Below.refl _ _) | (with_reducible refine below_drewN ?_ _) | (with_reducible refine Below.setCell ?_ ?_ _) | (with_reducible refine Below.alloc ?_ ?_ _) | (with_reducible refine Below.drew ?_) | (with_reducible exact Nat.le_refl _) | (with_reducible refine le_al ?_ _) | (with_reducible refine le_sc ?_ _ _) | (with_reducible refine le_dn ?_ _) | (with_reducible refine Nat.le_add_right_of_le ?_) | dsimp only)⟩
  rotate_left
  · have HS : Hid (sn (mag6 a0 a1 a2 a3 a4 a5 - mag6 b0 b1 b2 b3 b4 a5) = 1) := sn_pos (by unfold mag6; omega)
    go_enter Try.func68, Try.ntmps68
    go_wp2
    refine wp_loop_rounds 7 ?_
    rw [rounds_succ]
    go_wp2
    go_quiet (fail)
    go_wp2
    go_quiet (fail)
    go_wp2
    rw [rounds_succ]
    go_wp2
    go_quiet (fail)
    go_wp2
    go_quiet (fail)
    go_wp2
    go_ret
    exact ⟨ret_int (by rw [HS.out]), by repeat (first | (with_reducible exact Below.refl _ _) | (with_reducible refine below_drewN ?_ _) | (with_reducible refine Below.setCell ?_ ?_ _) | (with_reducible refine Below.alloc ?_ ?_ _) | (with_reducible refine Below.drew ?_) | (with_reducible exact Nat.le_refl _) | (with_reducible refine le_al ?_ _) | (with_reducible refine le_sc ?_ _ _) | (with_reducible refine le_dn ?_ _) | (with_reducible refine Nat.le_add_right_of_le ?_) | dsimp only)⟩
  subst h4
  rcases Int.lt_trichotomy a3 b3 with h3 | h3 | h3
  · have HS : Hid (sn (mag6 a0 a1 a2 a3 a4 a5 - mag6 b0 b1 b2 b3 a4 a5) = -1) := sn_neg (by unfold mag6; omega)
    have g3 : decide (a3 < b3) = true := decide_eq_true h3
    go_enter Try.func68, Try.ntmps68
    go_wp2
    refine wp_loop_rounds 7 ?_
    rw [rounds_succ]
    go_wp2
    go_quiet (fail)
    go_wp2
    go_quiet (fail)
    go_wp2
    rw [rounds_succ]
    go_wp2
    go_quiet (fail)
    go_wp2
    go_quiet (fail)
    go_wp2
    rw [rounds_succ]
    go_wp2
    go_quiet (fail)
    go_wp2
    go_ret
    exact ⟨ret_int (by rw [HS.out]), by repeat (first | (with_reducible exact Below.refl _ _) | (with_reducible refine below_drewN ?_ _) | (with_reducible refine Below.setCell ?_ ?_ _) | (with_reducible refine Below.alloc ?_ ?_ _) | (with_reducible refine Below.drew ?_) | (with_reducible exact Nat.le_refl _) | (with_reducible refine le_al ?_ _) | (with_reducible refine le_sc ?_ _ _) | (with_reducible refine le_dn ?_ _) | (with_reducible refine Nat.le_add_right_of_le ?_) | dsimp only)⟩
  rotate_left
  · have HS : Hid (sn (mag6 a0 a1 a2 a3 a4 a5 - mag6 b0 b1 b2 b3 a4 a5) = 1) := sn_pos (by unfold mag6; omega)
    go_enter Try.func68, Try.ntmps68
    go_wp2
    refine wp_loop_rounds 7 ?_
    rw [rounds_succ]
    go_wp2
    go_quiet (fail)
    go_wp2
    go_quiet (fail)
    go_wp2
    rw [rounds_succ]
    go_wp2
    go_quiet (fail)
    go_wp2
    go_quiet (fail)
    go_wp2
    rw [rounds_succ]
    go_wp2
    go_quiet (fail)
    go_wp2
    go_quiet (fail)
    go_wp2
    go_ret
    exact ⟨ret_int (by rw [HS.out]), by repeat (first | (with_reducible exact Below.refl _ _) | (with_reducible refine below_drewN ?_ _) | (with_reducible refine Below.setCell ?_ ?_ _) | (with_reducible refine Below.alloc ?_ ?_ _) | (with_reducible refine Below.drew ?_) | (with_reducible exact Nat.le_refl _) | (with_reducible refine le_al ?_ _) | (with_reducible refine le_sc ?_ _ _) | (with_reducible refine le_dn ?_ _) | (with_reducible refine Nat.le_add_right_of_le ?_) | dsimp only)⟩
  subst h3
  rcases Int.lt_trichotomy a2 b2 with h2 | h2 | h2
  · have HS : Hid (sn (mag6 a0 a1 a2 a3 a4 a5 - mag6 b0 b1 b2 a3 a4 a5) = -1) := sn_neg (by unfold mag6; omega)
    have g2 : decide (a2 < b2) = true := decide_eq_true h2
    go_enter Try.func68, Try.ntmps68
    go_wp2
    refine wp_loop_rounds 7 ?_
    rw [rounds_succ]
    go_wp2
    go_quiet (fail)
    go_wp2
    go_quiet (fail)
    go_wp2
    rw [rounds_succ]
    go_wp2
    go_quiet (fail)
    go_wp2
    go_quiet (fail)
    go_wp2
    rw [rounds_succ]
    go_wp2
    go_quiet (fail)
    go_wp2
    go_quiet (fail)
    go_wp2
    rw [rounds_succ]
    go_wp2
    go_quiet (fail)
    go_wp2
    go_ret
    exact ⟨ret_int (by rw [HS.out]), by repeat (first | (with_reducible exact Below.refl _ _) | (with_reducible refine below_drewN ?_ _) | (with_reducible refine Below.setCell ?_ ?_ _) | (with_reducible refine Below.alloc ?_ ?_ _) | (with_reducible refine Below.drew ?_) | (with_reducible exact Nat.le_refl _) | (with_reducible refine le_al ?_ _) | (with_reducible refine le_sc ?_ _ _) | (with_reducible refine le_dn ?_ _) | (with_reducible refine Nat.le_add_right_of_le ?_) | dsimp only)⟩
  rotate_left
  · have HS : Hid (sn (mag6 a0 a1 a2 a3 a4 a5 - mag6 b0 b1 b2 a3 a4 a5) = 1) := sn_pos (by unfold mag6; omega)
    go_enter Try.func68, Try.ntmps68
    go_wp2
    refine wp_loop_rounds 7 ?_
    rw [rounds_succ]
    go_wp2
    go_quiet (fail)
    go_wp2
    go_quiet (fail)
    go_wp2
    rw [rounds_succ]
    go_wp2
    go_quiet (fail)
    go_wp2
    go_quiet (fail)
    go_wp2
    rw [rounds_succ]
    go_wp2
    go_quiet (fail)
    go_wp2
    go_quiet (fail)
    go_wp2
    rw [rounds_succ]
    go_wp2
    go_quiet (fail)
    go_wp2
    go_quiet (fail)
    go_wp2
    go_ret
    exact ⟨ret_int (by rw [HS.out]), by repeat (first | (with_reducible exact Below.refl _ _) | (with_reducible refine below_drewN ?_ _) | (with_reducible refine Below.setCell ?_ ?_ _) | (with_reducible refine Below.alloc ?_ ?_ _) | (with_reducible refine Below.drew ?_) | (with_reducible exact Nat.le_refl _) | (with_reducible refine le_al ?_ _) | (with_reducible refine le_sc ?_ _ _) | (with_reducible refine le_dn ?_ _) | (with_reducible refine Nat.le_add_right_of_le ?_) | dsimp only)⟩
  subst h2
  rcases Int.lt_trichotomy a1 b1 with h1 | h1 | h1
  · have HS : Hid (sn (mag6 a0 a1 a2 a3 a4 a5 - mag6 b0 b1 a2 a3 a4 a5) = -1) := sn_neg (by unfold mag6; omega)
    have g1 : decide (a1 < b1) = true := decide_eq_true h1
    go_enter Try.func68, Try.ntmps68
    go_wp2
    refine wp_loop_rounds 7 ?_
    rw [rounds_succ]
    go_wp2
    go_quiet (fail)
    go_wp2
    go_quiet (fail)
    go_wp2
    rw [rounds_succ]
    go_wp2
    go_quiet (fail)
    go_wp2
    go_quiet (fail)
    go_wp2
    rw [rounds_succ]
    go_wp2
    go_quiet (fail)
    go_wp2
    go_quiet (fail)
    go_wp2
    rw [rounds_succ]
    go_wp2
    go_quiet (fail)
    go_wp2
    go_quiet (fail)
    go_wp2
    rw [rounds_succ]
    go_wp2
    go_quiet (fail)
    go_wp2
    go_ret
    exact ⟨ret_int (by rw [HS.out]), by repeat (first | (with_reducible exact Below.refl _ _) | (with_reducible refine below_drewN ?_ _) | (with_reducible refine Below.setCell ?_ ?_ _) | (with_reducible refine Below.alloc ?_ ?_ _) | (with_reducible refine Below.drew ?_) | (with_reducible exact Nat.le_refl _) | (with_reducible refine le_al ?_ _) | (with_reducible refine le_sc ?_ _ _) | (with_reducible refine le_dn ?_ _) | (with_reducible refine Nat.le_add_right_of_le ?_) | dsimp only)⟩
  rotate_left
  · have HS : Hid (sn (mag6 a0 a1 a2 a3 a4 a5 - mag6 b0 b1 a2 a3 a4 a5) = 1) := sn_pos (by unfold mag6; omega)
    go_enter Try.func68, Try.ntmps68
    go_wp2
    refine wp_loop_rounds 7 ?_
    rw [rounds_succ]
    go_wp2
    go_quiet (fail)
    go_wp2
    go_quiet (fail)
    go_wp2
    rw [rounds_succ]
    go_wp2
    go_quiet (fail)
    go_wp2
    go_quiet (fail)
    go_wp2
    rw [rounds_succ]
    go_wp2
    go_quiet (fail)
    go_wp2
    go_quiet (fail)
    go_wp2
    rw [rounds_succ]
    go_wp2
    go_quiet (fail)
    go_wp2
    go_quiet (fail)
    go_wp2
    rw [rounds_succ]
    go_wp2
    go_quiet (fail)
    go_wp2
    go_quiet (fail)
    go_wp2
    go_ret
    exact ⟨ret_int (by rw [HS.out]), by repeat (first | (with_reducible exact Below.refl _ _) | (with_reducible refine below_drewN ?_ _) | (with_reducible refine Below.setCell ?_ ?_ _) | (with_reducible refine Below.alloc ?_ ?_ _) | (with_reducible refine Below.drew ?_) | (with_reducible exact Nat.le_refl _) | (with_reducible refine le_al ?_ _) | (with_reducible refine le_sc ?_ _ _) | (with_reducible refine le_dn ?_ _) | (with_reducible refine Nat.le_add_right_of_le ?_) | dsimp only)⟩
  subst h1
  rcases Int.lt_trichotomy a0 b0 with h0 | h0 | h0
  · have HS : Hid (sn (mag6 a0 a1 a2 a3 a4 a5 - mag6 b0 a1 a2 a3 a4 a5) = -1) := sn_neg (by unfold mag6; omega)
    have g0 : decide (a0 < b0) = true := decide_eq_true h0
    go_enter Try.func68, Try.ntmps68
    go_wp2
    refine wp_loop_rounds 7 ?_
    rw [rounds_succ]
    go_wp2
    go_quiet (fail)
    go_wp2
    go_quiet (fail)
    go_wp2
    rw [rounds_succ]
    go_wp2
    go_quiet (fail)
    go_wp2
    go_quiet (fail)
    go_wp2
    rw [rounds_succ]
    go_wp2
    go_quiet (fail)
    go_wp2
    go_quiet (fail)
    go_wp2
    rw [rounds_succ]
    go_wp2
    go_quiet (fail)
    go_wp2
    go_quiet (fail)
    go_wp2
    rw [rounds_succ]
    go_wp2
    go_quiet (fail)
    go_wp2
    go_quiet (fail)
    go_wp2
    rw [rounds_succ]
    go_wp2
    go_quiet (fail)
    go_wp2
    go_ret
    exact ⟨ret_int (by rw [HS.out]), by repeat (first | (with_reducible exact Below.refl _ _) | (with_reducible refine below_drewN ?_ _) | (with_reducible refine Below.setCell ?_ ?_ _) | (with_reducible refine Below.alloc ?_ ?_ _) | (with_reducible refine Below.drew ?_) | (with_reducible exact Nat.le_refl _) | (with_reducible refine le_al ?_ _) | (with_reducible refine le_sc ?_ _ _) | (with_reducible refine le_dn ?_ _) | (with_reducible refine Nat.le_add_right_of_le ?_) | dsimp only)⟩
  rotate_left
  · have HS : Hid (sn (mag6 a0 a1 a2 a3 a4 a5 - mag6 b0 a1 a2 a3 a4 a5) = 1) := sn_pos (by unfold mag6; omega)
    go_enter Try.func68, Try.ntmps68
    go_wp2
    refine wp_loop_rounds 7 ?_
    rw [rounds_succ]
    go_wp2
    go_quiet (fail)
    go_wp2
    go_quiet (fail)
    go_wp2
    rw [rounds_succ]
    go_wp2
    go_quiet (fail)
    go_wp2
    go_quiet (fail)
    go_wp2
    rw [rounds_succ]
    go_wp2
    go_quiet (fail)
    go_wp2
    go_quiet (fail)
    go_wp2
    rw [rounds_succ]
    go_wp2
    go_quiet (fail)
    go_wp2
    go_quiet (fail)
    go_wp2
    rw [rounds_succ]
    go_wp2
    go_quiet (fail)
    go_wp2
    go_quiet (fail)
    go_wp2
    rw [rounds_succ]
    go_wp2
    go_quiet (fail)
    go_wp2
    go_quiet (fail)
    go_wp2
    go_ret
    exact ⟨ret_int (by rw [HS.out]), by repeat (first | (with_reducible exact Below.refl _ _) | (with_reducible refine below_drewN ?_ _) | (with_reducible refine Below.setCell ?_ ?_ _) | (with_reducible refine Below.alloc ?_ ?_ _) | (with_reducible refine Below.drew ?_) | (with_reducible exact Nat.le_refl _) | (with_reducible refine le_al ?_ _) | (with_reducible refine le_sc ?_ _ _) | (with_reducible refine le_dn ?_ _) | (with_reducible refine Nat.le_add_right_of_le ?_) | dsimp only)⟩
  subst h0
  have HS : Hid (sn (mag6 a0 a1 a2 a3 a4 a5 - mag6 a0 a1 a2 a3 a4 a5) = 0) := by rw [Int.sub_self]; rfl
  go_enter Try.func68, Try.ntmps68
  go_wp2
  refine wp_loop_rounds 7 ?_
  rw [rounds_succ]
  go_wp2
  go_quiet (fail)
  go_wp2
  go_quiet (fail)
  go_wp2
  rw [rounds_succ]
  go_wp2
  go_quiet (fail)
  go_wp2
  go_quiet (fail)
  go_wp2
  rw [rounds_succ]
  go_wp2
  go_quiet (fail)
  go_wp2
  go_quiet (fail)
  go_wp2
  rw [rounds_succ]
  go_wp2
  go_quiet (fail)
  go_wp2
  go_quiet (fail)
  go_wp2
  rw [rounds_succ]
  go_wp2
  go_quiet (fail)
  go_wp2
  go_quiet (fail)
  go_wp2
  rw [rounds_succ]
  go_wp2
  go_quiet (fail)
  go_wp2
  go_quiet (fail)
  go_wp2
  rw [rounds_succ]
  go_wp2
  go_ret
  exact ⟨ret_int (by rw [HS.out]), by repeat (first | (with_reducible exact Below.refl _ _) | (with_reducible refine below_drewN ?_ _) | (with_reducible refine Below.setCell ?_ ?_ _) | (with_reducible refine Below.alloc ?_ ?_ _) | (with_reducible refine Below.drew ?_) | (with_reducible exact Nat.le_refl _) | (with_reducible refine le_al ?_ _) | (with_reducible refine le_sc ?_ _ _) | (with_reducible refine le_dn ?_ _) | (with_reducible refine Nat.le_add_right_of_le ?_) | dsimp only)⟩

set_option maxHeartbeats 2000000 in
theorem plus_same (n : Bool) (a0 a1 a2 a3 a4 a5 b0 b1 b2 b3 b4 b5 d0 d1 d2 d3 d4 d5 : Int) (w : World)
    
    (hm : ∀ w, Calls Try.prog 64 #[.agg #[.int .u64 a0, .int .u64 a1, .int .u64 a2, .int .u64 a3, .int .u64 a4, .int .u64 a5], .agg #[.int .u64 b0, .int .u64 b1, .int .u64 b2, .int .u64 b3, .int .u64 b4, .int .u64 b5]] w fun e w' => e = .returned (.agg #[.int .u64 d0, .int .u64 d1, .int .u64 d2, .int .u64 d3, .int .u64 d4, .int .u64 d5]) ∧ Below w.heap.size w w') :
    Calls Try.prog 65 #[.agg #[.bool n, .int .u64 a0, .int .u64 a1, .int .u64 a2, .int .u64 a3, .int .u64 a4, .int .u64 a5], .agg #[.bool n, .int .u64 b0, .int .u64 b1, .int .u64 b2, .int .u64 b3, .int .u64 b4, .int .u64 b5]] w
      fun e w' => e = .returned (.agg #[.bool n, .int .u64 d0, .int .u64 d1, .int .u64 d2, .int .u64 d3, .int .u64 d4, .int .u64 d5]) ∧ Below w.heap.size w w' := by
  have HM := Lib.hid hm
  clear hm
  go_enter Try.func65, Try.ntmps65
  go_wp2_with fail
  refine G.region_tail (fun w' => Hid (Below (w.heap.size + 3) (((w.alloc (Obj.cells #[.bool n, .int .u64 a0, .int .u64 a1, .int .u64 a2, .int .u64 a3, .int .u64 a4, .int .u64 a5] 86)).alloc (Obj.cells #[.bool n, .int .u64 b0, .int .u64 b1, .int .u64 b2, .int .u64 b3, .int .u64 b4, .int .u64 b5] 86)).alloc (Obj.cells #[.bool false, .int .u64 0, .int .u64 0, .int .u64 0, .int .u64 0, .int .u64 0, .int .u64 0] 86)) w')) 8 (by kernel_rfl) (by kernel_rfl) (Below.drew (Below.refl _ _)) ?_
  simp only [List.take_succ_cons, List.take_zero, List.drop_succ_cons, List.drop_zero]
  repeat (refine G.q_val ?_ (by rfl) (fun wq hq => ?_) (fun K hK => ?_); rotate_left; (have hc := hb_cell hq; go_simp; with_reducible rfl); (go_simp; refine hK _ ?_; clear hK K))
  refine G.q_call_below (by simp) HM.out (by rfl) (fun wq hq => ?_) (fun K hK => ?_)
  · go_simp
  go_simp; refine hK _ ?_; clear hK K
  repeat (refine G.q_val ?_ (by rfl) (fun wq hq => ?_) (fun K hK => ?_); rotate_left; (have hc := hb_cell hq; go_simp; with_reducible rfl); (go_simp; refine hK _ ?_; clear hK K))
  refine wpQuiet_nil (fun wq hq => ?_)
  have hc := hb_cell hq
  have hf := hb_frozen hq
  go_wp2
  refine bodyPost_ret (v := .agg #[.bool n, .int .u64 d0, .int .u64 d1, .int .u64 d2, .int .u64 d3, .int .u64 d4, .int .u64 d5]) (by simp [results, Try.results65, go_sem, hc]) rfl ⟨rfl, ?_⟩
  have base : Below w.heap.size w (((w.alloc (Obj.cells #[.bool n, .int .u64 a0, .int .u64 a1, .int .u64 a2, .int .u64 a3, .int .u64 a4, .int .u64 a5] 86)).alloc (Obj.cells #[.bool n, .int .u64 b0, .int .u64 b1, .int .u64 b2, .int .u64 b3, .int .u64 b4, .int .u64 b5] 86)).alloc (Obj.cells #[.bool false, .int .u64 0, .int .u64 0, .int .u64 0, .int .u64 0, .int .u64 0, .int .u64 0] 86)) := by repeat (first | (with_reducible exact Below.refl _ _) | (with_reducible refine below_drewN ?_ _) | (with_reducible refine Below.setCell ?_ ?_ _) | (with_reducible refine Below.alloc ?_ ?_ _) | (with_reducible refine Below.drew ?_) | (with_reducible exact Nat.le_refl _) | (with_reducible refine le_al ?_ _) | (with_reducible refine le_sc ?_ _ _) | (with_reducible refine le_dn ?_ _) | (with_reducible refine Nat.le_add_right_of_le ?_) | dsimp only)
  have base2 := base.trans (Below.mono hq (by omega))
  repeat (first | (with_reducible exact base2) | (with_reducible refine Below.setCell ?_ ?_ _) | (with_reducible refine Nat.le_add_right_of_le ?_) | (with_reducible exact Nat.le_refl _) | dsimp only)

set_option maxHeartbeats 2000000 in
theorem plus_ge_tf (r : Int) (hr : 0 ≤ r) (a0 a1 a2 a3 a4 a5 b0 b1 b2 b3 b4 b5 d0 d1 d2 d3 d4 d5 : Int) (w : World)
    (hz : ∀ w, Calls Try.prog 68 #[.agg #[.int .u64 a0, .int .u64 a1, .int .u64 a2, .int .u64 a3, .int .u64 a4, .int .u64 a5], .agg #[.int .u64 b0, .int .u64 b1, .int .u64 b2, .int .u64 b3, .int .u64 b4, .int .u64 b5]] w fun e w' => e = .returned (.int .i64 r) ∧ Below w.heap.size w w')
    (hm : ∀ w, Calls Try.prog 69 #[.agg #[.int .u64 a0, .int .u64 a1, .int .u64 a2, .int .u64 a3, .int .u64 a4, .int .u64 a5], .agg #[.int .u64 b0, .int .u64 b1, .int .u64 b2, .int .u64 b3, .int .u64 b4, .int .u64 b5]] w fun e w' => e = .returned (.agg #[.int .u64 d0, .int .u64 d1, .int .u64 d2, .int .u64 d3, .int .u64 d4, .int .u64 d5]) ∧ Below w.heap.size w w') :
    Calls Try.prog 65 #[.agg #[.bool true, .int .u64 a0, .int .u64 a1, .int .u64 a2, .int .u64 a3, .int .u64 a4, .int .u64 a5], .agg #[.bool false, .int .u64 b0, .int .u64 b1, .int .u64 b2, .int .u64 b3, .int .u64 b4, .int .u64 b5]] w
      fun e w' => e = .returned (.agg #[.bool true, .int .u64 d0, .int .u64 d1, .int .u64 d2, .int .u64 d3, .int .u64 d4, .int .u64 d5]) ∧ Below w.heap.size w w' := by
  have HM := Lib.hid hm
  clear hm
  have HZ := Lib.hid hz
  clear hz
  go_enter Try.func65, Try.ntmps65
  go_wp2_with fail
  refine (HZ.out _).mono ?_
  rintro e w1 ⟨rfl, hb1⟩
  obtain ⟨hc1, hf1⟩ := bcell hb1
  have hz1 := hb1.size
  simp at hz1
  have z0 : w.heap.size < w1.heap.size := by omega
  have z1 : w.heap.size + 1 < w1.heap.size := by omega
  have z2 : w.heap.size + 1 + 1 < w1.heap.size := by omega
  go_wp2_with fail
  refine G.region_tail (fun w' => Hid (Below (w1.heap.size) w1 w')) 8 (by kernel_rfl) (by kernel_rfl) (Below.drew (Below.refl _ _)) ?_
  simp only [List.take_succ_cons, List.take_zero, List.drop_succ_cons, List.drop_zero]
  repeat (refine G.q_val ?_ (by rfl) (fun wq hq => ?_) (fun K hK => ?_); rotate_left; (have hc := hb_cell hq; go_simp; with_reducible rfl); (go_simp; refine hK _ ?_; clear hK K))
  refine G.q_call_below (by simp) HM.out (by rfl) (fun wq hq => ?_) (fun K hK => ?_)
  · go_simp
  go_simp; refine hK _ ?_; clear hK K
  repeat (refine G.q_val ?_ (by rfl) (fun wq hq => ?_) (fun K hK => ?_); rotate_left; (have hc := hb_cell hq; go_simp; with_reducible rfl); (go_simp; refine hK _ ?_; clear hK K))
  refine wpQuiet_nil (fun wq hq => ?_)
  have hc := hb_cell hq
  have hf := hb_frozen hq
  go_wp2
  refine bodyPost_ret (v := .agg #[.bool true, .int .u64 d0, .int .u64 d1, .int .u64 d2, .int .u64 d3, .int .u64 d4, .int .u64 d5]) (by simp [results, Try.results65, go_sem, hc, hc1, z0, z1, z2]) rfl ⟨rfl, ?_⟩
  have base : Below w.heap.size w (((w.alloc (Obj.cells #[.bool true, .int .u64 a0, .int .u64 a1, .int .u64 a2, .int .u64 a3, .int .u64 a4, .int .u64 a5] 86)).alloc (Obj.cells #[.bool false, .int .u64 b0, .int .u64 b1, .int .u64 b2, .int .u64 b3, .int .u64 b4, .int .u64 b5] 86)).alloc (Obj.cells #[.bool false, .int .u64 0, .int .u64 0, .int .u64 0, .int .u64 0, .int .u64 0, .int .u64 0] 86)) := by repeat (first | (with_reducible exact Below.refl _ _) | (with_reducible refine below_drewN ?_ _) | (with_reducible refine Below.setCell ?_ ?_ _) | (with_reducible refine Below.alloc ?_ ?_ _) | (with_reducible refine Below.drew ?_) | (with_reducible exact Nat.le_refl _) | (with_reducible refine le_al ?_ _) | (with_reducible refine le_sc ?_ _ _) | (with_reducible refine le_dn ?_ _) | (with_reducible refine Nat.le_add_right_of_le ?_) | dsimp only)
  have base2 := (base.trans (hb1.mono (by simp; omega))).trans (Below.mono hq (by omega))
  repeat (first | (with_reducible exact base2) | (with_reducible refine Below.setCell ?_ ?_ _) | (with_reducible refine Nat.le_add_right_of_le ?_) | (with_reducible exact Nat.le_refl _) | dsimp only)

set_option maxHeartbeats 2000000 in
theorem plus_lt_tf (r : Int) (hr : r < 0) (a0 a1 a2 a3 a4 a5 b0 b1 b2 b3 b4 b5 d0 d1 d2 d3 d4 d5 : Int) (w : World)
    (hz : ∀ w, Calls Try.prog 68 #[.agg #[.int .u64 a0, .int .u64 a1, .int .u64 a2, .int .u64 a3, .int .u64 a4, .int .u64 a5], .agg #[.int .u64 b0, .int .u64 b1, .int .u64 b2, .int .u64 b3, .int .u64 b4, .int .u64 b5]] w fun e w' => e = .returned (.int .i64 r) ∧ Below w.heap.size w w')
    (hm : ∀ w, Calls Try.prog 69 #[.agg #[.int .u64 b0, .int .u64 b1, .int .u64 b2, .int .u64 b3, .int .u64 b4, .int .u64 b5], .agg #[.int .u64 a0, .int .u64 a1, .int .u64 a2, .int .u64 a3, .int .u64 a4, .int .u64 a5]] w fun e w' => e = .returned (.agg #[.int .u64 d0, .int .u64 d1, .int .u64 d2, .int .u64 d3, .int .u64 d4, .int .u64 d5]) ∧ Below w.heap.size w w') :
    Calls Try.prog 65 #[.agg #[.bool true, .int .u64 a0, .int .u64 a1, .int .u64 a2, .int .u64 a3, .int .u64 a4, .int .u64 a5], .agg #[.bool false, .int .u64 b0, .int .u64 b1, .int .u64 b2, .int .u64 b3, .int .u64 b4, .int .u64 b5]] w
      fun e w' => e = .returned (.agg #[.bool false, .int .u64 d0, .int .u64 d1, .int .u64 d2, .int .u64 d3, .int .u64 d4, .int .u64 d5]) ∧ Below w.heap.size w w' := by
  have HM := Lib.hid hm
  clear hm
  have HZ := Lib.hid hz
  clear hz
  go_enter Try.func65, Try.ntmps65
  go_wp2_with fail
  refine (HZ.out _).mono ?_
  rintro e w1 ⟨rfl, hb1⟩
  obtain ⟨hc1, hf1⟩ := bcell hb1
  have hz1 := hb1.size
  simp at hz1
  have z0 : w.heap.size < w1.heap.size := by omega
  have z1 : w.heap.size + 1 < w1.heap.size := by omega
  have z2 : w.heap.size + 1 + 1 < w1.heap.size := by omega
  go_wp2_with fail
  refine G.region_tail (fun w' => Hid (Below (w1.heap.size) w1 w')) 8 (by kernel_rfl) (by kernel_rfl) (Below.drew (Below.refl _ _)) ?_
  simp only [List.take_succ_cons, List.take_zero, List.drop_succ_cons, List.drop_zero]
  repeat (refine G.q_val ?_ (by rfl) (fun wq hq => ?_) (fun K hK => ?_); rotate_left; (have hc := hb_cell hq; go_simp; with_reducible rfl); (go_simp; refine hK _ ?_; clear hK K))
  refine G.q_call_below (by simp) HM.out (by rfl) (fun wq hq => ?_) (fun K hK => ?_)
  · go_simp
  go_simp; refine hK _ ?_; clear hK K
  repeat (refine G.q_val ?_ (by rfl) (fun wq hq => ?_) (fun K hK => ?_); rotate_left; (have hc := hb_cell hq; go_simp; with_reducible rfl); (go_simp; refine hK _ ?_; clear hK K))
  refine wpQuiet_nil (fun wq hq => ?_)
  have hc := hb_cell hq
  have hf := hb_frozen hq
  go_wp2
  refine bodyPost_ret (v := .agg #[.bool false, .int .u64 d0, .int .u64 d1, .int .u64 d2, .int .u64 d3, .int .u64 d4, .int .u64 d5]) (by simp [results, Try.results65, go_sem, hc, hc1, z0, z1, z2]) rfl ⟨rfl, ?_⟩
  have base : Below w.heap.size w (((w.alloc (Obj.cells #[.bool true, .int .u64 a0, .int .u64 a1, .int .u64 a2, .int .u64 a3, .int .u64 a4, .int .u64 a5] 86)).alloc (Obj.cells #[.bool false, .int .u64 b0, .int .u64 b1, .int .u64 b2, .int .u64 b3, .int .u64 b4, .int .u64 b5] 86)).alloc (Obj.cells #[.bool false, .int .u64 0, .int .u64 0, .int .u64 0, .int .u64 0, .int .u64 0, .int .u64 0] 86)) := by repeat (first | (with_reducible exact Below.refl _ _) | (with_reducible refine below_drewN ?_ _) | (with_reducible refine Below.setCell ?_ ?_ _) | (with_reducible refine Below.alloc ?_ ?_ _) | (with_reducible refine Below.drew ?_) | (with_reducible exact Nat.le_refl _) | (with_reducible refine le_al ?_ _) | (with_reducible refine le_sc ?_ _ _) | (with_reducible refine le_dn ?_ _) | (with_reducible refine Nat.le_add_right_of_le ?_) | dsimp only)
  have base2 := (base.trans (hb1.mono (by simp; omega))).trans (Below.mono hq (by omega))
  repeat (first | (with_reducible exact base2) | (with_reducible refine Below.setCell ?_ ?_ _) | (with_reducible refine Nat.le_add_right_of_le ?_) | (with_reducible exact Nat.le_refl _) | dsimp only)

set_option maxHeartbeats 2000000 in
theorem plus_ge_ft (r : Int) (hr : 0 ≤ r) (a0 a1 a2 a3 a4 a5 b0 b1 b2 b3 b4 b5 d0 d1 d2 d3 d4 d5 : Int) (w : World)
    (hz : ∀ w, Calls Try.prog 68 #[.agg #[.int .u64 a0, .int .u64 a1, .int .u64 a2, .int .u64 a3, .int .u64 a4, .int .u64 a5], .agg #[.int .u64 b0, .int .u64 b1, .int .u64 b2, .int .u64 b3, .int .u64 b4, .int .u64 b5]] w fun e w' => e = .returned (.int .i64 r) ∧ Below w.heap.size w w')
    (hm : ∀ w, Calls Try.prog 69 #[.agg #[.int .u64 a0, .int .u64 a1, .int .u64 a2, .int .u64 a3, .int .u64 a4, .int .u64 a5], .agg #[.int .u64 b0, .int .u64 b1, .int .u64 b2, .int .u64 b3, .int .u64 b4, .int .u64 b5]] w fun e w' => e = .returned (.agg #[.int .u64 d0, .int .u64 d1, .int .u64 d2, .int .u64 d3, .int .u64 d4, .int .u64 d5]) ∧ Below w.heap.size w w') :
    Calls Try.prog 65 #[.agg #[.bool false, .int .u64 a0, .int .u64 a1, .int .u64 a2, .int .u64 a3, .int .u64 a4, .int .u64 a5], .agg #[.bool true, .int .u64 b0, .int .u64 b1, .int .u64 b2, .int .u64 b3, .int .u64 b4, .int .u64 b5]] w
      fun e w' => e = .returned (.agg #[.bool false, .int .u64 d0, .int .u64 d1, .int .u64 d2, .int .u64 d3, .int .u64 d4, .int .u64 d5]) ∧ Below w.heap.size w w' := by
  have HM := Lib.hid hm
  clear hm
  have HZ := Lib.hid hz
  clear hz
  go_enter Try.func65, Try.ntmps65
  go_wp2_with fail
  refine (HZ.out _).mono ?_
  rintro e w1 ⟨rfl, hb1⟩
  obtain ⟨hc1, hf1⟩ := bcell hb1
  have hz1 := hb1.size
  simp at hz1
  have z0 : w.heap.size < w1.heap.size := by omega
  have z1 : w.heap.size + 1 < w1.heap.size := by omega
  have z2 : w.heap.size + 1 + 1 < w1.heap.size := by omega
  go_wp2_with fail
  refine G.region_tail (fun w' => Hid (Below (w1.heap.size) w1 w')) 8 (by kernel_rfl) (by kernel_rfl) (Below.drew (Below.refl _ _)) ?_
  simp only [List.take_succ_cons, List.take_zero, List.drop_succ_cons, List.drop_zero]
  repeat (refine G.q_val ?_ (by rfl) (fun wq hq => ?_) (fun K hK => ?_); rotate_left; (have hc := hb_cell hq; go_simp; with_reducible rfl); (go_simp; refine hK _ ?_; clear hK K))
  refine G.q_call_below (by simp) HM.out (by rfl) (fun wq hq => ?_) (fun K hK => ?_)
  · go_simp
  go_simp; refine hK _ ?_; clear hK K
  repeat (refine G.q_val ?_ (by rfl) (fun wq hq => ?_) (fun K hK => ?_); rotate_left; (have hc := hb_cell hq; go_simp; with_reducible rfl); (go_simp; refine hK _ ?_; clear hK K))
  refine wpQuiet_nil (fun wq hq => ?_)
  have hc := hb_cell hq
  have hf := hb_frozen hq
  go_wp2
  refine bodyPost_ret (v := .agg #[.bool false, .int .u64 d0, .int .u64 d1, .int .u64 d2, .int .u64 d3, .int .u64 d4, .int .u64 d5]) (by simp [results, Try.results65, go_sem, hc, hc1, z0, z1, z2]) rfl ⟨rfl, ?_⟩
  have base : Below w.heap.size w (((w.alloc (Obj.cells #[.bool false, .int .u64 a0, .int .u64 a1, .int .u64 a2, .int .u64 a3, .int .u64 a4, .int .u64 a5] 86)).alloc (Obj.cells #[.bool true, .int .u64 b0, .int .u64 b1, .int .u64 b2, .int .u64 b3, .int .u64 b4, .int .u64 b5] 86)).alloc (Obj.cells #[.bool false, .int .u64 0, .int .u64 0, .int .u64 0, .int .u64 0, .int .u64 0, .int .u64 0] 86)) := by repeat (first | (with_reducible exact Below.refl _ _) | (with_reducible refine below_drewN ?_ _) | (with_reducible refine Below.setCell ?_ ?_ _) | (with_reducible refine Below.alloc ?_ ?_ _) | (with_reducible refine Below.drew ?_) | (with_reducible exact Nat.le_refl _) | (with_reducible refine le_al ?_ _) | (with_reducible refine le_sc ?_ _ _) | (with_reducible refine le_dn ?_ _) | (with_reducible refine Nat.le_add_right_of_le ?_) | dsimp only)
  have base2 := (base.trans (hb1.mono (by simp; omega))).trans (Below.mono hq (by omega))
  repeat (first | (with_reducible exact base2) | (with_reducible refine Below.setCell ?_ ?_ _) | (with_reducible refine Nat.le_add_right_of_le ?_) | (with_reducible exact Nat.le_refl _) | dsimp only)

set_option maxHeartbeats 2000000 in
theorem plus_lt_ft (r : Int) (hr : r < 0) (a0 a1 a2 a3 a4 a5 b0 b1 b2 b3 b4 b5 d0 d1 d2 d3 d4 d5 : Int) (w : World)
    (hz : ∀ w, Calls Try.prog 68 #[.agg #[.int .u64 a0, .int .u64 a1, .int .u64 a2, .int .u64 a3, .int .u64 a4, .int .u64 a5], .agg #[.int .u64 b0, .int .u64 b1, .int .u64 b2, .int .u64 b3, .int .u64 b4, .int .u64 b5]] w fun e w' => e = .returned (.int .i64 r) ∧ Below w.heap.size w w')
    (hm : ∀ w, Calls Try.prog 69 #[.agg #[.int .u64 b0, .int .u64 b1, .int .u64 b2, .int .u64 b3, .int .u64 b4, .int .u64 b5], .agg #[.int .u64 a0, .int .u64 a1, .int .u64 a2, .int .u64 a3, .int .u64 a4, .int .u64 a5]] w fun e w' => e = .returned (.agg #[.int .u64 d0, .int .u64 d1, .int .u64 d2, .int .u64 d3, .int .u64 d4, .int .u64 d5]) ∧ Below w.heap.size w w') :
    Calls Try.prog 65 #[.agg #[.bool false, .int .u64 a0, .int .u64 a1, .int .u64 a2, .int .u64 a3, .int .u64 a4, .int .u64 a5], .agg #[.bool true, .int .u64 b0, .int .u64 b1, .int .u64 b2, .int .u64 b3, .int .u64 b4, .int .u64 b5]] w
      fun e w' => e = .returned (.agg #[.bool true, .int .u64 d0, .int .u64 d1, .int .u64 d2, .int .u64 d3, .int .u64 d4, .int .u64 d5]) ∧ Below w.heap.size w w' := by
  have HM := Lib.hid hm
  clear hm
  have HZ := Lib.hid hz
  clear hz
  go_enter Try.func65, Try.ntmps65
  go_wp2_with fail
  refine (HZ.out _).mono ?_
  rintro e w1 ⟨rfl, hb1⟩
  obtain ⟨hc1, hf1⟩ := bcell hb1
  have hz1 := hb1.size
  simp at hz1
  have z0 : w.heap.size < w1.heap.size := by omega
  have z1 : w.heap.size + 1 < w1.heap.size := by omega
  have z2 : w.heap.size + 1 + 1 < w1.heap.size := by omega
  go_wp2_with fail
  refine G.region_tail (fun w' => Hid (Below (w1.heap.size) w1 w')) 8 (by kernel_rfl) (by kernel_rfl) (Below.drew (Below.refl _ _)) ?_
  simp only [List.take_succ_cons, List.take_zero, List.drop_succ_cons, List.drop_zero]
  repeat (refine G.q_val ?_ (by rfl) (fun wq hq => ?_) (fun K hK => ?_); rotate_left; (have hc := hb_cell hq; go_simp; with_reducible rfl); (go_simp; refine hK _ ?_; clear hK K))
  refine G.q_call_below (by simp) HM.out (by rfl) (fun wq hq => ?_) (fun K hK => ?_)
  · go_simp
  go_simp; refine hK _ ?_; clear hK K
  repeat (refine G.q_val ?_ (by rfl) (fun wq hq => ?_) (fun K hK => ?_); rotate_left; (have hc := hb_cell hq; go_simp; with_reducible rfl); (go_simp; refine hK _ ?_; clear hK K))
  refine wpQuiet_nil (fun wq hq => ?_)
  have hc := hb_cell hq
  have hf := hb_frozen hq
  go_wp2
  refine bodyPost_ret (v := .agg #[.bool true, .int .u64 d0, .int .u64 d1, .int .u64 d2, .int .u64 d3, .int .u64 d4, .int .u64 d5]) (by simp [results, Try.results65, go_sem, hc, hc1, z0, z1, z2]) rfl ⟨rfl, ?_⟩
  have base : Below w.heap.size w (((w.alloc (Obj.cells #[.bool false, .int .u64 a0, .int .u64 a1, .int .u64 a2, .int .u64 a3, .int .u64 a4, .int .u64 a5] 86)).alloc (Obj.cells #[.bool true, .int .u64 b0, .int .u64 b1, .int .u64 b2, .int .u64 b3, .int .u64 b4, .int .u64 b5] 86)).alloc (Obj.cells #[.bool false, .int .u64 0, .int .u64 0, .int .u64 0, .int .u64 0, .int .u64 0, .int .u64 0] 86)) := by repeat (first | (with_reducible exact Below.refl _ _) | (with_reducible refine below_drewN ?_ _) | (with_reducible refine Below.setCell ?_ ?_ _) | (with_reducible refine Below.alloc ?_ ?_ _) | (with_reducible refine Below.drew ?_) | (with_reducible exact Nat.le_refl _) | (with_reducible refine le_al ?_ _) | (with_reducible refine le_sc ?_ _ _) | (with_reducible refine le_dn ?_ _) | (with_reducible refine Nat.le_add_right_of_le ?_) | dsimp only)
  have base2 := (base.trans (hb1.mono (by simp; omega))).trans (Below.mono hq (by omega))
  repeat (first | (with_reducible exact base2) | (with_reducible refine Below.setCell ?_ ?_ _) | (with_reducible refine Nat.le_add_right_of_le ?_) | (with_reducible exact Nat.le_refl _) | dsimp only)

end Go.Proofs.Ytpfdoifkimjlbaa

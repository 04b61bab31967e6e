/- THE REFERENCE's integers: whether one is 0, its sign, whether it fits. -/
import Derived.Test.YtpfdoifkimjlbaaR2
import Derived.Laws.StructEq
namespace Go.Proofs.Ytpfdoifkimjlbaa
open Go.RowKit M
set_option linter.unusedVariables false
set_option linter.unusedSimpArgs false

theorem run_zero6 (a0 a1 a2 a3 a4 a5 : Int) (w : World) :
   Sem.run Try.prog (Op.equalIn 10000 84 (.agg #[.int .u64 a0, .int .u64 a1, .int .u64 a2, .int .u64 a3, .int .u64 a4, .int .u64 a5]) (.agg #[.int .u64 0, .int .u64 0, .int .u64 0, .int .u64 0, .int .u64 0, .int .u64 0])) w = .ok (a0 == 0 && a1 == 0 && a2 == 0 && a3 == 0 && a4 == 0 && a5 == 0) w := by
  have e : ∀ x y (w : World), Sem.run Try.prog (Op.equalIn 9999 78 (.int .u64 x) (.int .u64 y)) w = .ok (x == y) w := fun x y w => run_equalIn_int w 9998 78 .u64 .u64 x y Try.underlying78
  unfold Op.equalIn
  simp only [Sem.run_bind, run_underlying Try.underlying84, Result.andThen_ok]
  simp [go_sem, e, Std.Legacy.Range.forIn_eq_forIn_range', List.range', Std.Legacy.Range.size]
  by_cases h0 : a0 = 0 <;> by_cases h1 : a1 = 0 <;> by_cases h2 : a2 = 0 <;> by_cases h3 : a3 = 0 <;> by_cases h4 : a4 = 0 <;> by_cases h5 : a5 = 0 <;> simp [h0, h1, h2, h3, h4, h5]

theorem ret_tb {k : IntKind} {a b : Int} {c : Bool} (h : a = b) : Ending.returned (.tuple #[.int k a, .bool c]) = .returned (.tuple #[.int k b, .bool c]) := by rw [h]

theorem int_big2 (n : Bool) (l0 l1 l2 l3 l4 l5 : Int) (h : (l2 != 0) = true) (w : World) :
    Calls Try.prog 66 #[.agg #[.bool n, .int .u64 l0, .int .u64 l1, .int .u64 l2, .int .u64 l3, .int .u64 l4, .int .u64 l5]] w fun e w' => e = .returned (.tuple #[.int .i64 0, .bool false]) ∧ Below w.heap.size w w' := by
  go_enter Try.func66, Try.ntmps66
  go_wp2
  go_ret2
  exact ⟨rfl, (Below.refl _ _).alloc (Nat.le_refl _) _⟩

theorem int_big3 (n : Bool) (l0 l1 l3 l4 l5 : Int) (h : (l3 != 0) = true) (w : World) :
    Calls Try.prog 66 #[.agg #[.bool n, .int .u64 l0, .int .u64 l1, .int .u64 0, .int .u64 l3, .int .u64 l4, .int .u64 l5]] w fun e w' => e = .returned (.tuple #[.int .i64 0, .bool false]) ∧ Below w.heap.size w w' := by
  go_enter Try.func66, Try.ntmps66
  go_wp2
  go_ret2
  exact ⟨rfl, (Below.refl _ _).alloc (Nat.le_refl _) _⟩

theorem int_big4 (n : Bool) (l0 l1 l4 l5 : Int) (h : (l4 != 0) = true) (w : World) :
    Calls Try.prog 66 #[.agg #[.bool n, .int .u64 l0, .int .u64 l1, .int .u64 0, .int .u64 0, .int .u64 l4, .int .u64 l5]] w fun e w' => e = .returned (.tuple #[.int .i64 0, .bool false]) ∧ Below w.heap.size w w' := by
  go_enter Try.func66, Try.ntmps66
  go_wp2
  go_ret2
  exact ⟨rfl, (Below.refl _ _).alloc (Nat.le_refl _) _⟩

theorem int_big5 (n : Bool) (l0 l1 l5 : Int) (h : (l5 != 0) = true) (w : World) :
    Calls Try.prog 66 #[.agg #[.bool n, .int .u64 l0, .int .u64 l1, .int .u64 0, .int .u64 0, .int .u64 0, .int .u64 l5]] w fun e w' => e = .returned (.tuple #[.int .i64 0, .bool false]) ∧ Below w.heap.size w w' := by
  go_enter Try.func66, Try.ntmps66
  go_wp2
  go_ret2
  exact ⟨rfl, (Below.refl _ _).alloc (Nat.le_refl _) _⟩

theorem int_pos (l0 l1 u : Int) (p0 : 0 ≤ l0) (q0 : l0 ≤ 4294967295) (p1 : 0 ≤ l1) (q1 : l1 ≤ 4294967295) (hu : l1 * 4294967296 + l0 = u) (u0 : 0 ≤ u) (u1 : u ≤ 9223372036854775807) (w : World) :
    Calls Try.prog 66 #[.agg #[.bool false, .int .u64 l0, .int .u64 l1, .int .u64 0, .int .u64 0, .int .u64 0, .int .u64 0]] w fun e w' => e = .returned (.tuple #[.int .i64 u, .bool true]) ∧ Below w.heap.size w w' := by
  go_enter Try.func66, Try.ntmps66
  go_wp2
  go_ret2
  exact ⟨rfl, (Below.refl _ _).alloc (Nat.le_refl _) _⟩

theorem int_pos_over (l0 l1 u : Int) (p0 : 0 ≤ l0) (q0 : l0 ≤ 4294967295) (p1 : 0 ≤ l1) (q1 : l1 ≤ 4294967295) (hu : l1 * 4294967296 + l0 = u) (u0 : 9223372036854775807 < u) (u1 : u ≤ 18446744073709551615) (w : World) :
    Calls Try.prog 66 #[.agg #[.bool false, .int .u64 l0, .int .u64 l1, .int .u64 0, .int .u64 0, .int .u64 0, .int .u64 0]] w fun e w' => e = .returned (.tuple #[.int .i64 0, .bool false]) ∧ Below w.heap.size w w' := by
  go_enter Try.func66, Try.ntmps66
  go_wp2
  go_ret2
  exact ⟨rfl, (Below.refl _ _).alloc (Nat.le_refl _) _⟩

theorem int_neg_zero  (w : World) :
    Calls Try.prog 66 #[.agg #[.bool true, .int .u64 0, .int .u64 0, .int .u64 0, .int .u64 0, .int .u64 0, .int .u64 0]] w fun e w' => e = .returned (.tuple #[.int .i64 0, .bool true]) ∧ Below w.heap.size w w' := by
  go_enter Try.func66, Try.ntmps66
  go_wp2
  go_ret2
  exact ⟨rfl, (Below.refl _ _).alloc (Nat.le_refl _) _⟩

theorem int_neg (l0 l1 u : Int) (p0 : 0 ≤ l0) (q0 : l0 ≤ 4294967295) (p1 : 0 ≤ l1) (q1 : l1 ≤ 4294967295) (hu : l1 * 4294967296 + l0 = u) (u0 : 0 < u) (u1 : u ≤ 9223372036854775808) (w : World) :
    Calls Try.prog 66 #[.agg #[.bool true, .int .u64 l0, .int .u64 l1, .int .u64 0, .int .u64 0, .int .u64 0, .int .u64 0]] w fun e w' => e = .returned (.tuple #[.int .i64 (-u), .bool true]) ∧ Below w.heap.size w w' := by
  go_enter Try.func66, Try.ntmps66
  go_wp2
  go_ret2
  exact ⟨ret_tb (by omega), (Below.refl _ _).alloc (Nat.le_refl _) _⟩

theorem int_neg_over (l0 l1 u : Int) (p0 : 0 ≤ l0) (q0 : l0 ≤ 4294967295) (p1 : 0 ≤ l1) (q1 : l1 ≤ 4294967295) (hu : l1 * 4294967296 + l0 = u) (u0 : 9223372036854775808 < u) (u1 : u ≤ 18446744073709551615) (w : World) :
    Calls Try.prog 66 #[.agg #[.bool true, .int .u64 l0, .int .u64 l1, .int .u64 0, .int .u64 0, .int .u64 0, .int .u64 0]] w fun e w' => e = .returned (.tuple #[.int .i64 0, .bool false]) ∧ Below w.heap.size w w' := by
  go_enter Try.func66, Try.ntmps66
  go_wp2
  go_ret2
  exact ⟨rfl, (Below.refl _ _).alloc (Nat.le_refl _) _⟩

/-- A magnitude: six digits. -/
def IsM (v : Value) (m : Int) : Prop := ∃ l0 l1 l2 l3 l4 l5 : Int, v = .agg #[.int .u64 l0, .int .u64 l1, .int .u64 l2, .int .u64 l3, .int .u64 l4, .int .u64 l5] ∧
  (0 ≤ l0 ∧ l0 ≤ 4294967295) ∧ (0 ≤ l1 ∧ l1 ≤ 4294967295) ∧ (0 ≤ l2 ∧ l2 ≤ 4294967295) ∧ (0 ≤ l3 ∧ l3 ≤ 4294967295) ∧ (0 ≤ l4 ∧ l4 ≤ 4294967295) ∧ (0 ≤ l5 ∧ l5 ≤ 4294967295) ∧ mag6 l0 l1 l2 l3 l4 l5 = m
/-- An integer: a sign and six digits. -/
def IsW (v : Value) (x : Int) : Prop := ∃ (n : Bool) (l0 l1 l2 l3 l4 l5 : Int), v = .agg #[.bool n, .int .u64 l0, .int .u64 l1, .int .u64 l2, .int .u64 l3, .int .u64 l4, .int .u64 l5] ∧
  (0 ≤ l0 ∧ l0 ≤ 4294967295) ∧ (0 ≤ l1 ∧ l1 ≤ 4294967295) ∧ (0 ≤ l2 ∧ l2 ≤ 4294967295) ∧ (0 ≤ l3 ∧ l3 ≤ 4294967295) ∧ (0 ≤ l4 ∧ l4 ≤ 4294967295) ∧ (0 ≤ l5 ∧ l5 ≤ 4294967295) ∧ sg n (mag6 l0 l1 l2 l3 l4 l5) = x

theorem from_W (a : Int) (h0 : -9223372036854775808 ≤ a) (h1 : a ≤ 9223372036854775807) :
    ∃ v, IsW v a ∧ ∀ w, Calls Try.prog 58 #[.int .i64 a] w fun e w' => e = .returned v ∧ Below w.heap.size w w' := by
  refine ⟨_, ?_, fun w => from_any a w h0 h1⟩
  have a1 := mg_nonneg a
  have a2 := mg_le h0 h1
  refine ⟨_, _, _, _, _, _, _, rfl, by omega, by omega, by omega, by omega, by omega, by omega, ?_⟩
  rw [show mag6 (mg a % 4294967296) (mg a / 4294967296) 0 0 0 0 = mg a by unfold mag6; omega]
  exact sg_mg a

/-- Whether it fits. -/
def fb (x : Int) : Bool := decide (-9223372036854775808 ≤ x ∧ x ≤ 9223372036854775807)

theorem int_W {v : Value} {x : Int} (h : IsW v x) : ∀ w, Calls Try.prog 66 #[v] w fun e w' => e = .returned (.tuple #[.int .i64 (vo x), .bool (fb x)]) ∧ Below w.heap.size w w' := by
  obtain ⟨n, l0, l1, l2, l3, l4, l5, rfl, b0, b1, b2, b3, b4, b5, rfl⟩ := h
  intro w
  have big : 18446744073709551616 ≤ mag6 l0 l1 l2 l3 l4 l5 → (Value.int .i64 (vo (sg n (mag6 l0 l1 l2 l3 l4 l5))) = .int .i64 0 ∧ Value.bool (fb (sg n (mag6 l0 l1 l2 l3 l4 l5))) = .bool false) := by
    intro hm
    have hs : sg n (mag6 l0 l1 l2 l3 l4 l5) < -9223372036854775808 ∨ 9223372036854775807 < sg n (mag6 l0 l1 l2 l3 l4 l5) := by unfold sg; split <;> omega
    exact ⟨by rw [vo_out hs], by unfold fb; rw [decide_eq_false (by omega)]⟩
  by_cases h2 : l2 = 0
  case neg =>
    rw [(big (by unfold mag6; omega)).1, (big (by unfold mag6; omega)).2]
    exact int_big2 n l0 l1 l2 l3 l4 l5 (by simpa using h2) w
  subst h2
  by_cases h3 : l3 = 0
  case neg =>
    rw [(big (by unfold mag6; omega)).1, (big (by unfold mag6; omega)).2]
    exact int_big3 n l0 l1 l3 l4 l5 (by simpa using h3) w
  subst h3
  by_cases h4 : l4 = 0
  case neg =>
    rw [(big (by unfold mag6; omega)).1, (big (by unfold mag6; omega)).2]
    exact int_big4 n l0 l1 l4 l5 (by simpa using h4) w
  subst h4
  by_cases h5 : l5 = 0
  case neg =>
    rw [(big (by unfold mag6; omega)).1, (big (by unfold mag6; omega)).2]
    exact int_big5 n l0 l1 l5 (by simpa using h5) w
  subst h5
  clear big
  obtain ⟨u, hu⟩ : ∃ u, l1 * 4294967296 + l0 = u := ⟨_, rfl⟩
  have hm : mag6 l0 l1 0 0 0 0 = u := by unfold mag6; omega
  rw [hm]
  cases n
  · show Calls Try.prog 66 _ w fun e w' => e = .returned (.tuple #[.int .i64 (vo u), .bool (fb u)]) ∧ Below w.heap.size w w'
    by_cases hf : u ≤ 9223372036854775807
    · rw [vo_in (by omega) hf, show fb u = true from decide_eq_true ⟨by omega, hf⟩]
      exact int_pos l0 l1 u b0.1 b0.2 b1.1 b1.2 hu (by omega) hf w
    · rw [vo_out (Or.inr (by omega)), show fb u = false from decide_eq_false (by omega)]
      exact int_pos_over l0 l1 u b0.1 b0.2 b1.1 b1.2 hu (by omega) (by omega) w
  · show Calls Try.prog 66 _ w fun e w' => e = .returned (.tuple #[.int .i64 (vo (-u)), .bool (fb (-u))]) ∧ Below w.heap.size w w'
    by_cases hf : u ≤ 9223372036854775808
    · rw [vo_in (by omega) (by omega), show fb (-u) = true from decide_eq_true ⟨by omega, by omega⟩]
      by_cases hz : u = 0
      · obtain rfl : l0 = 0 := by omega
        obtain rfl : l1 = 0 := by omega
        subst hz
        exact int_neg_zero w
      · exact int_neg l0 l1 u b0.1 b0.2 b1.1 b1.2 hu (by omega) hf w
    · rw [vo_out (Or.inl (by omega)), show fb (-u) = false from decide_eq_false (by omega)]
      exact int_neg_over l0 l1 u b0.1 b0.2 b1.1 b1.2 hu (by omega) (by omega) w

theorem fit_W {v : Value} {x : Int} (h : IsW v x) : ∀ w, Calls Try.prog 59 #[v] w fun e w' => e = .returned (.tuple #[.int .i64 (vo x), .int .i64 (eo x)]) ∧ Below w.heap.size w w' := by
  have hi := Lib.hid (int_W h)
  obtain ⟨n, l0, l1, l2, l3, l4, l5, rfl, b0, b1, b2, b3, b4, b5, -⟩ := h
  intro w
  have hx := eo_cases x
  cases hf : fb x with
  | true =>
    have he : eo x = 0 := by have := of_decide_eq_true hf; omega
    rw [he]
    have HF := Lib.hid hf
    clear hf hx he b0 b1 b2 b3 b4 b5
    go_enter Try.func59, Try.ntmps59
    go_wp2_with fail
    refine (hi.out _).mono ?_
    rintro e w1 ⟨rfl, hb1⟩
    rw [HF.out]
    go_wp2
    go_ret2
    exact ⟨rfl, ((Below.refl _ _).alloc (Nat.le_refl _) _).trans (hb1.mono (by simp))⟩
  | false =>
    have he : eo x = 7 ∧ vo x = 0 := by have := of_decide_eq_false hf; omega
    rw [he.1, he.2]
    have HF := Lib.hid hf
    clear hf hx he b0 b1 b2 b3 b4 b5
    go_enter Try.func59, Try.ntmps59
    go_wp2_with fail
    refine (hi.out _).mono ?_
    rintro e w1 ⟨rfl, hb1⟩
    rw [HF.out]
    go_wp2
    go_ret2
    exact ⟨rfl, ((Below.refl _ _).alloc (Nat.le_refl _) _).trans (hb1.mono (by simp))⟩

end Go.Proofs.Ytpfdoifkimjlbaa

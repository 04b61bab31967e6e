/- THE STATEMENTS about package checked: the examples at the end of every statement hold. -/
import Derived.Test.YtgcflohlmbdoiaaR10
import Derived.Test.YtgcflohlmbdoiaaC5
import Derived.Laws.StructEq
namespace Go.Proofs.Ytgcflohlmbdoiaa
open Go.RowKit M
set_option linter.unusedVariables false
set_option linter.unusedSimpArgs false

theorem works_sum (b : Nat) (w : World) (h0 : w.cell? ⟨b, 0, none⟩ = some (.int .i64 9223372036854775807)) (h1 : w.cell? ⟨b, 1, none⟩ = some (.int .i64 1)) (h2 : w.cell? ⟨b, 2, none⟩ = some (.int .i64 (-1))) (cap : Nat) :
    Calls Try.prog 13 #[.slice (some ⟨b, 0, none⟩) 3 cap] w fun e w' => e = .returned (.tuple #[.int .i64 9223372036854775807, .int .i64 0]) ∧ w = w' := by
  refine (sum_cells [9223372036854775807, 1, -1] b 0 cap w (by decide) (by simp) ?_).mono ?_
  · intro k hk
    simp at hk
    obtain rfl | rfl | rfl : k = 0 ∨ k = 1 ∨ k = 2 := by omega
    · exact h0
    · exact h1
    · exact h2
  · rintro e w' ⟨rfl, rfl⟩
    exact ⟨rfl, rfl⟩

theorem works_div (w : World) : Calls Try.prog 16 #[.int .i64 4611686018427387904, .int .i64 6, .int .i64 4] w fun e w' => e = .returned (.tuple #[.int .i64 6917529027641081856, .int .i64 0]) ∧ Below w.heap.size w w' :=
  muldiv_any 4611686018427387904 6 4 w (by decide) (by decide) (by decide) (by decide) (by decide) (by decide)

theorem works_red (w : World) : Calls Try.prog 18 #[.int .i64 6, .int .i64 (-4)] w fun e w' => e = .returned (.tuple #[.agg #[.int .i64 (-3), .int .i64 2], .int .i64 0]) ∧ Below w.heap.size w w' :=
  reduce_ok 6 (-4) w (by decide) (by decide) (by decide) (by decide) (by decide) (by decide)

theorem works_any (w : World) : Calls Try.prog 15 #[] w fun e w' => e = .returned (.bool true) ∧ Below w.heap.size w w' := by
  go_enter Try.func15, Try.ntmps15
  go_wp2_with fail
  refine (works_sum w.heap.size _ (by simp [go_sem]) (by simp [go_sem]) (by simp [go_sem]) _).mono ?_
  rintro e w1 ⟨rfl, rfl⟩
  go_wp2_with fail
  refine (works_div _).mono ?_
  rintro e w2 ⟨rfl, hb2⟩
  have B2 : Hid (Below w.heap.size w w2) := hb_trans (hb_alloc (hb_refl _ _) (Nat.le_refl _) _) hb2 (by simp)
  have s2 := Below.size B2
  clear hb2
  go_wp2_with fail
  refine (works_red _).mono ?_
  rintro e w3 ⟨rfl, hb3⟩
  have B3 : Hid (Below w.heap.size w w3) := hb_trans B2 hb3 s2
  have s3 := Below.size B3
  clear hb3 B2 s2
  go_wp2
  go_ret
  exact ⟨rfl, B3.out.alloc s3 _⟩

end Go.Proofs.Ytgcflohlmbdoiaa

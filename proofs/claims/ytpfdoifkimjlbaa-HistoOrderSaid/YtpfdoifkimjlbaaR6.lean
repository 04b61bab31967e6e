/- THE REFERENCE of package checked: Order, Add, Sub, Mul, magnitude, Reduce, Compare. -/
import Derived.Test.YtpfdoifkimjlbaaR5
namespace Go.Proofs.Ytpfdoifkimjlbaa
open Go.RowKit M
set_option linter.unusedVariables false
set_option linter.unusedSimpArgs false

theorem B192 {a b : Int} (h0 : -9223372036854775808 ≤ a) (h1 : a ≤ 9223372036854775807) (h2 : -9223372036854775808 ≤ b) (h3 : b ≤ 9223372036854775807) :
    mg a < 79228162514264337593543950336 ∧ mg b < 79228162514264337593543950336 ∧ -85070591730234615865843651857942052864 ≤ a * b ∧ a * b ≤ 85070591730234615865843651857942052864 := by
  have a1 := mg_nonneg a
  have a2 := mg_le h0 h1
  have b1 := mg_nonneg b
  have b2 := mg_le h2 h3
  have hp := mul_bd a1 a2 b1 b2
  have := neg_mul_mg a b
  generalize mg a * mg b = m at *
  unfold sg at this
  split at this <;> omega

theorem below_then {w w1 w2 : World} (h1 : Below w.heap.size w w1) (h2 : Below w1.heap.size w1 w2) : Below w.heap.size w w2 := h1.trans (h2.mono h1.size)

end Go.Proofs.Ytpfdoifkimjlbaa

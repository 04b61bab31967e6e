/- package checked's Sum: the exact sum of a list of numbers. -/
import Derived.Test.YtpfdoifkimjlbaaC3
import Derived.Laws.Externs
namespace Go.Proofs.Ytpfdoifkimjlbaa
open Go.RowKit M
set_option linter.unusedVariables false
set_option linter.unusedSimpArgs false

theorem add64_raw (L X : Int) (w : World) : ((Extern.MathBitsCarry.rows.get ⟨0, by decide⟩).2 #[.int .u64 L, .int .u64 X, .int .u64 0]).run Try.prog w =
    .ok (.tuple #[.int .u64 (Int.ofNat ((L.toNat + X.toNat + 0) % 18446744073709551616)), .int .u64 (Int.ofNat ((L.toNat + X.toNat + 0) / 18446744073709551616))]) w := by kernel_rfl

theorem sum_test_ne {H L : Int} (h0 : 0 ≤ L) (h1 : L ≤ 18446744073709551615) (h : ¬ H = wrap64 L / 9223372036854775808) : H * 18446744073709551616 + L < -9223372036854775808 ∨ 9223372036854775807 < H * 18446744073709551616 + L := by
  unfold wrap64 at h; omega
theorem sum_test_eq {H L : Int} (h0 : 0 ≤ L) (h1 : L ≤ 18446744073709551615) (h : H = wrap64 L / 9223372036854775808) : -9223372036854775808 ≤ H * 18446744073709551616 + L ∧ H * 18446744073709551616 + L ≤ 9223372036854775807 ∧ wrap64 L = H * 18446744073709551616 + L := by
  subst h; unfold wrap64; omega

theorem take_sum (l : List Int) (k : Nat) (h : k < l.length) : (l.take (k + 1)).sum = (l.take k).sum + l.getD k 0 := by
  rw [List.take_succ_eq_append_getElem h, List.sum_append, List.getD_eq_getElem?_getD, List.getElem?_eq_getElem h]
  simp

end Go.Proofs.Ytpfdoifkimjlbaa

/- THE CONTRACTS of package histo at no histogram: nothing turns. -/
import Derived.Test.YtpfdoifkimjlbaaX
set_option linter.unusedVariables false
set_option linter.unusedSimpArgs false
namespace Go.Proofs.Ytpfdoifkimjlbaa
open Go.RowKit H M

theorem hadd_none {w : World} {lo hi : Nat} {v : Value} (h : NoH w lo hi v) (x t : Int) : Calls Try.prog 20 #[v, .int .i64 x, .int .i64 t] w fun e w' => e = .returned (.int .i64 1) ∧ w = w' := by
  have HV := Lib.hid (valid_no h)
  clear h
  go_enter Try.func20, Try.ntmps20
  go_wp2_with fail
  refine HV.out.mono ?_
  rintro e w' ⟨rfl, rfl⟩
  go_wp2
  go_ret
  exact ⟨rfl, rfl⟩

theorem merge_none {w : World} {lo hi : Nat} {v : Value} (h : NoH w lo hi v) (u : Value) : Calls Try.prog 27 #[v, u] w fun e w' => e = .returned (.int .i64 1) ∧ w = w' := by
  have HV := Lib.hid (valid_no h)
  clear h
  go_enter Try.func27, Try.ntmps27
  go_wp2_with fail
  refine HV.out.mono ?_
  rintro e w' ⟨rfl, rfl⟩
  go_wp2
  go_ret
  exact ⟨rfl, rfl⟩

theorem quant_none {w : World} {lo hi : Nat} {v : Value} (h : NoH w lo hi v) (n d : Int) : Calls Try.prog 16 #[v, .int .i64 n, .int .i64 d] w fun e w' => e = .returned (.tuple #[.int .i64 0, .int .i64 1]) ∧ w = w' := by
  have HV := Lib.hid (valid_no h)
  clear h
  go_enter Try.func16, Try.ntmps16
  go_wp2_with fail
  refine HV.out.mono ?_
  rintro e w' ⟨rfl, rfl⟩
  go_wp2
  go_ret2
  exact ⟨rfl, rfl⟩

theorem coarse_none {w : World} {lo hi : Nat} {v : Value} (h : NoH w lo hi v) (b : Int) : Calls Try.prog 29 #[v, .int .i64 b] w fun e w' => e = .returned (.tuple #[.pointer none, .int .i64 1]) ∧ w = w' := by
  have HV := Lib.hid (valid_no h)
  clear h
  go_enter Try.func29, Try.ntmps29
  go_wp2_with fail
  refine HV.out.mono ?_
  rintro e w' ⟨rfl, rfl⟩
  go_wp2
  go_ret2
  exact ⟨rfl, rfl⟩

theorem copy_none {w : World} {lo hi : Nat} {v : Value} (h : NoH w lo hi v)  : Calls Try.prog 33 #[v] w fun e w' => e = .returned (.pointer none) ∧ w = w' := by
  have HV := Lib.hid (valid_no h)
  clear h
  go_enter Try.func33, Try.ntmps33
  go_wp2_with fail
  refine HV.out.mono ?_
  rintro e w' ⟨rfl, rfl⟩
  go_wp2
  go_ret
  exact ⟨rfl, rfl⟩

theorem merge_with_none {w : World} {lo hi lo2 hi2 : Nat} {v u : Value} {s : List Int × List Int} (h : PHo w lo hi v (some s)) (k : NoH w lo2 hi2 u) : Calls Try.prog 27 #[v, u] w fun e w' => e = .returned (.int .i64 1) ∧ w = w' := by
  obtain ⟨B, C⟩ := s
  have HV2 := Lib.hid (valid_no k)
  obtain ⟨g, p, rfl, cb, bb, a, cp, cap, ex, l1, l2, l3, b1, b2, b3⟩ := h
  have HV := Lib.hid (valid_yes p w (b1.cell 0))
  clear g b1 b2 b3 l1 l2 l3 k
  go_enter Try.func27, Try.ntmps27
  go_wp2_with fail
  refine HV.out.mono ?_
  rintro e w' ⟨rfl, rfl⟩
  go_wp2_with fail
  refine HV2.out.mono ?_
  rintro e w' ⟨rfl, rfl⟩
  go_wp2
  go_ret
  exact ⟨rfl, rfl⟩
end Go.Proofs.Ytpfdoifkimjlbaa

/- package checked's Sum: the exact sum of a list of numbers. -/
import Derived.Test.YtgcflohlmbdoiaaC3
import Derived.Laws.Externs
namespace Go.Proofs.Ytgcflohlmbdoiaa
open Go.RowKit M
set_option linter.unusedVariables false
set_option linter.unusedSimpArgs false

theorem add64_raw (L X : Int) (w : World) : ((Extern.MathBitsCarry.rows.get ⟨0, by decide⟩).2 #[.int .u64 L, .int .u64 X, .int .u64 0]).run Try.prog w =
    .ok (.tuple #[.int .u64 (Int.ofNat ((L.toNat + X.toNat + 0) % 18446744073709551616)), .int .u64 (Int.ofNat ((L.toNat + X.toNat + 0) / 18446744073709551616))]) w := by kernel_rfl

theorem add64_run (L X : Int) (w : World) (h0 : 0 ≤ L) (h1 : 0 ≤ X) : (callFunc 29 #[.int .u64 L, .int .u64 X, .int .u64 0]).run Try.prog w =
    .ok (.value (.tuple #[.int .u64 ((L + X) % 18446744073709551616), .int .u64 ((L + X) / 18446744073709551616)])) w := by
  rw [run_callFunc_extern (e := (Extern.MathBitsCarry.rows.get ⟨0, by decide⟩).2) Try.func29 (by kernel_rfl) (by kernel_rfl) (by kernel_rfl) (by kernel_rfl), add64_raw]
  have e1 : Int.ofNat ((L.toNat + X.toNat + 0) % 18446744073709551616) = (L + X) % 18446744073709551616 := by
    show (((L.toNat + X.toNat + 0) % 18446744073709551616 : Nat) : Int) = _
    omega
  have e2 : Int.ofNat ((L.toNat + X.toNat + 0) / 18446744073709551616) = (L + X) / 18446744073709551616 := by
    show (((L.toNat + X.toNat + 0) / 18446744073709551616 : Nat) : Int) = _
    omega
  rw [e1, e2]
  rfl

theorem sum_test_ne {H L : Int} (h0 : 0 ≤ L) (h1 : L ≤ 18446744073709551615) (h : ¬ H = wrap64 L / 9223372036854775808) : H * 18446744073709551616 + L < -9223372036854775808 ∨ 9223372036854775807 < H * 18446744073709551616 + L := by
  unfold wrap64 at h; omega
theorem sum_test_eq {H L : Int} (h0 : 0 ≤ L) (h1 : L ≤ 18446744073709551615) (h : H = wrap64 L / 9223372036854775808) : -9223372036854775808 ≤ H * 18446744073709551616 + L ∧ H * 18446744073709551616 + L ≤ 9223372036854775807 ∧ wrap64 L = H * 18446744073709551616 + L := by
  subst h; unfold wrap64; omega

theorem take_sum (l : List Int) (k : Nat) (h : k < l.length) : (l.take (k + 1)).sum = (l.take k).sum + l.getD k 0 := by
  rw [List.take_succ_eq_append_getElem h, List.sum_append, List.getD_eq_getElem?_getD, List.getElem?_eq_getElem h]
  simp

theorem sum_none (a : Option Addr) (cap : Nat) (w : World) :
    Calls Try.prog 13 #[.slice a 0 cap] w fun e w' => e = .returned (.tuple #[.int .i64 0, .int .i64 0]) ∧ w = w' := by
  go_enter Try.func13, Try.ntmps13
  go_wp2
  go_loop [4, 5, 11] (fun h u i => i = .int .i64 0 ∧ h = .int .i64 0 ∧ u = .int .u64 0) (fun _ _ i => 0)
  case atStart => exact ⟨rfl, rfl, rfl⟩
  case round =>
    obtain ⟨rfl, rfl, rfl⟩ := hrel
    go_wp2
    go_ret2
    exact ⟨rfl, rfl⟩

set_option maxHeartbeats 400000 in
theorem sum_cells (l : List Int) (b off cap : Nat) (w : World) (hl : l.length ≤ 17592186044416) (hbd : ∀ x ∈ l, -9223372036854775808 ≤ x ∧ x ≤ 9223372036854775807)
    (hc : ∀ k, k < l.length → w.cell? ⟨b, off + k, none⟩ = some (.int .i64 (l.getD k 0))) :
    Calls Try.prog 13 #[.slice (some ⟨b, off, none⟩) l.length cap] w fun e w' => e = .returned (.tuple #[.int .i64 (vo l.sum), .int .i64 (eo l.sum)]) ∧ w = w' := by
  have HC := Lib.hid hc
  have HB := Lib.hid hbd
  clear hc hbd
  go_enter Try.func13, Try.ntmps13
  go_wp2
  go_loop [4, 5, 11] (fun h u i => ∃ (k : Nat) (H L : Int), k ≤ l.length ∧ i = .int .i64 k ∧ h = .int .i64 H ∧ u = .int .u64 L ∧ 0 ≤ L ∧ L ≤ 18446744073709551615 ∧ -(k : Int) ≤ H ∧ H ≤ k ∧ Hid (H * 18446744073709551616 + L = (l.take k).sum)) (fun _ _ i => l.length - (intOf i).toNat)
  case atStart => exact ⟨0, 0, 0, by omega, rfl, rfl, rfl, by omega, by omega, by omega, by omega, Lib.hid rfl⟩
  case round =>
    obtain ⟨k, H, L, hk, rfl, rfl, rfl, L0, L1, H0, H1, HS⟩ := hrel
    by_cases hlt : k < l.length
    · have hx := HC.out k hlt
      have hX := HB.out (l.getD k 0) (by rw [List.getD_eq_getElem?_getD, List.getElem?_eq_getElem hlt]; simp)
      have ts := take_sum l k hlt
      obtain ⟨x, hx1⟩ : ∃ x, l.getD k 0 = x := ⟨_, rfl⟩
      rw [hx1] at hx hX ts
      obtain ⟨x0, x1⟩ := hX
      obtain ⟨X, hX⟩ : ∃ X, IntKind.u64.wrap x = X := ⟨_, rfl⟩
      have X0 : 0 ≤ X := by subst hX; simp only [IntKind.wrap_u64]; omega
      have X1 : X ≤ 18446744073709551615 := by subst hX; simp only [IntKind.wrap_u64]; omega
      have HX : Hid (x / 9223372036854775808 * 18446744073709551616 + X = x) := by subst hX; simp only [IntKind.wrap_u64]; show _ = _; omega
      have hadd := add64_run L X w L0 X0
      have TS := Lib.hid ts
      clear hx1 ts
      go_wp2
      go_round
      case rel => exact ⟨k + 1, _, _, by omega, by go_num, rfl, rfl, by omega, by omega, by omega, by omega, Lib.hid (by have := HS.out; have := TS.out; have := HX.out; omega)⟩
      case measure => simp [intOf]; omega
    · obtain rfl : k = l.length := by omega
      have hs := HS.out
      rw [List.take_length] at hs
      have HS2 := Lib.hid hs
      clear hs HS
      go_wp2
      · go_ret2
        have ht : (H != wrap64 L / 9223372036854775808) = true := by assumption
        have hv := sum_test_ne L0 L1 (by simpa using ht)
        rw [HS2.out] at hv
        exact ⟨ret_two (vo_out hv).symm (eo_out hv).symm, rfl⟩
      · go_ret2
        have ht : (H != wrap64 L / 9223372036854775808) = false := by assumption
        have hv := sum_test_eq L0 L1 (by simpa using ht)
        rw [HS2.out] at hv
        exact ⟨ret_two (by rw [vo_in hv.1 hv.2.1]; exact hv.2.2) (eo_in hv.1 hv.2.1).symm, rfl⟩

#print axioms sum_cells

end Go.Proofs.Ytgcflohlmbdoiaa

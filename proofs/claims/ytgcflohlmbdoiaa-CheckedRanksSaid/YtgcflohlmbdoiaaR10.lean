/- THE REFERENCE of package checked: Sum. -/
import Derived.Test.YtgcflohlmbdoiaaR9
import Derived.Test.YtgcflohlmbdoiaaC4
namespace Go.Proofs.Ytgcflohlmbdoiaa
open Go.RowKit M
set_option linter.unusedVariables false
set_option linter.unusedSimpArgs false

theorem rsum_none (a : Option Addr) (cap : Nat) (w : World) :
    Calls Try.prog 14 #[.slice a 0 cap] w fun e w' => e = .returned (.tuple #[.int .i64 0, .int .i64 0]) ∧ Below w.heap.size w w' := by
  have W0 : IsW (.agg #[.bool false, .int .u64 0, .int .u64 0, .int .u64 0, .int .u64 0, .int .u64 0, .int .u64 0]) 0 := ⟨false, 0, 0, 0, 0, 0, 0, rfl, by omega, by omega, by omega, by omega, by omega, by omega, rfl⟩
  have HF := Lib.hid (fit_W W0)
  clear W0
  go_enter Try.func14, Try.ntmps14
  go_wp2
  go_loopw [5] (fun i wr => i = .int .i64 0 ∧ wr.cell? ⟨w.heap.size, 0, none⟩ = some (.bool false) ∧ wr.cell? ⟨w.heap.size, 1, none⟩ = some (.int .u64 0) ∧ wr.cell? ⟨w.heap.size, 2, none⟩ = some (.int .u64 0) ∧ wr.cell? ⟨w.heap.size, 3, none⟩ = some (.int .u64 0) ∧ wr.cell? ⟨w.heap.size, 4, none⟩ = some (.int .u64 0) ∧ wr.cell? ⟨w.heap.size, 5, none⟩ = some (.int .u64 0) ∧ wr.cell? ⟨w.heap.size, 6, none⟩ = some (.int .u64 0) ∧ w.heap.size < wr.heap.size ∧ Hid (Below w.heap.size w wr)) (fun _ _ => 0)
  case atStart =>
    refine ⟨rfl, ?_, ?_, ?_, ?_, ?_, ?_, ?_, ?_, ?_⟩
    all_goals first | (simp [go_sem]; done) | (simp [go_sem]; omega) | (exact hb_alloc (hb_refl _ _) (Nat.le_refl _) _)
  case round =>
    obtain ⟨rfl, k0, k1, k2, k3, k4, k5, k6, y0, hB⟩ := hrel
    go_wp2_with fail
    refine (HF.out _).mono ?_
    rintro e w2 ⟨rfl, hb2⟩
    have B2 := hb_trans hB hb2 (Nat.le_of_lt y0)
    go_wp2
    go_ret2
    exact ⟨rfl, B2.out⟩

theorem take_bd (l : List Int) (hb : ∀ x ∈ l, -9223372036854775808 ≤ x ∧ x ≤ 9223372036854775807) (k : Nat) (h : k ≤ l.length) : -(k * 9223372036854775808 : Int) ≤ (l.take k).sum ∧ (l.take k).sum ≤ (k * 9223372036854775808 : Int) := by
  induction k with
  | zero => simp
  | succ k ih =>
    have i1 := ih (by omega)
    have hX := hb (l.getD k 0) (by rw [List.getD_eq_getElem?_getD, List.getElem?_eq_getElem (by omega)]; simp)
    rw [take_sum l k (by omega)]
    omega

set_option maxHeartbeats 1000000 in
theorem rsum_cells (l : List Int) (b off cap : Nat) (w : World) (hl : l.length ≤ 17592186044416) (hbd : ∀ x ∈ l, -9223372036854775808 ≤ x ∧ x ≤ 9223372036854775807)
    (hc : ∀ k, k < l.length → w.cell? ⟨b, off + k, none⟩ = some (.int .i64 (l.getD k 0))) :
    Calls Try.prog 14 #[.slice (some ⟨b, off, none⟩) l.length cap] w fun e w' => e = .returned (.tuple #[.int .i64 (vo l.sum), .int .i64 (eo l.sum)]) ∧ Below w.heap.size w w' := by
  have HC := Lib.hid hc
  have HB := Lib.hid hbd
  clear hc hbd
  go_enter Try.func14, Try.ntmps14
  go_wp2
  go_loopw [5] (fun i wr => ∃ (k : Nat) (n : Bool) (d0 d1 d2 d3 d4 d5 : Int), i = .int .i64 k ∧ k ≤ l.length ∧ wr.cell? ⟨w.heap.size, 0, none⟩ = some (.bool n) ∧ wr.cell? ⟨w.heap.size, 1, none⟩ = some (.int .u64 d0) ∧ wr.cell? ⟨w.heap.size, 2, none⟩ = some (.int .u64 d1) ∧ wr.cell? ⟨w.heap.size, 3, none⟩ = some (.int .u64 d2) ∧ wr.cell? ⟨w.heap.size, 4, none⟩ = some (.int .u64 d3) ∧ wr.cell? ⟨w.heap.size, 5, none⟩ = some (.int .u64 d4) ∧ wr.cell? ⟨w.heap.size, 6, none⟩ = some (.int .u64 d5) ∧ (∀ o, wr.frozen? ⟨w.heap.size, o, none⟩ = false) ∧ w.heap.size < wr.heap.size ∧ Hid (IsW (.agg #[.bool n, .int .u64 d0, .int .u64 d1, .int .u64 d2, .int .u64 d3, .int .u64 d4, .int .u64 d5]) (l.take k).sum) ∧ Hid (Below w.heap.size w wr)) (fun i _ => l.length - (intOf i).toNat)
  case atStart =>
    refine ⟨0, false, 0, 0, 0, 0, 0, 0, rfl, by omega, ?_, ?_, ?_, ?_, ?_, ?_, ?_, ?_, ?_, ?_, ?_⟩
    all_goals first | (simp [go_sem]; done) | (simp [go_sem]; omega) | (exact hb_alloc (hb_refl _ _) (Nat.le_refl _) _) | exact ⟨false, 0, 0, 0, 0, 0, 0, rfl, by omega, by omega, by omega, by omega, by omega, by omega, rfl⟩ | trace_state
  case round =>
    obtain ⟨k, n, d0, d1, d2, d3, d4, d5, rfl, hk, k0, k1, k2, k3, k4, k5, k6, z0, y0, HW, hB⟩ := hrel
    by_cases hlt : k < l.length
    · have hx := ck_below hB.out (HC.out k hlt)
      have hX := HB.out (l.getD k 0) (by rw [List.getD_eq_getElem?_getD, List.getElem?_eq_getElem hlt]; simp)
      have ts := take_sum l k hlt
      have tb := take_bd l HB.out k hk
      obtain ⟨x, hx1⟩ : ∃ x, l.getD k 0 = x := ⟨_, rfl⟩
      rw [hx1] at hx hX ts
      obtain ⟨vf, hvf, hf⟩ := from_W x hX.1 hX.2
      obtain ⟨vp, hvp, hp⟩ := plus_W HW.out hvf (by omega) (by omega)
      rw [← ts] at hvp
      obtain ⟨pn, p0, p1, p2, p3, p4, p5, rfl, -⟩ := id hvp
      have HV := Lib.hid hvp
      have HF := Lib.hid hf
      have HP := Lib.hid hp
      clear hvp hf hp hvf ts tb hX hx1 HW
      have y1 := World.block_lt_of_cell? wr _ hx
      dsimp only at y1
      go_wp2_with fail
      refine G.tail_below 7 (by kernel_rfl) (by kernel_rfl) ?_
      simp only [List.take_succ_cons, List.take_zero, List.drop_succ_cons, List.drop_zero]
      repeat (refine G.q_val ?_ (by rfl) (fun wq hq => ?_) (fun K hK => ?_); rotate_left; (have hc := hb_cell hq; go_simp; with_reducible rfl); (go_simp; refine hK _ ?_; clear hK K))
      refine G.q_call_below (Nat.le_refl _) HF.out (by rfl) (fun wq hq => ?_) (fun K hK => ?_)
      · have hc := hb_cell hq
        go_simp
      go_simp; refine hK _ ?_; clear hK K
      repeat (refine G.q_val ?_ (by rfl) (fun wq hq => ?_) (fun K hK => ?_); rotate_left; (have hc := hb_cell hq; go_simp; with_reducible rfl); (go_simp; refine hK _ ?_; clear hK K))
      refine G.q_call_below (Nat.le_refl _) HP.out (by rfl) (fun wq hq => ?_) (fun K hK => ?_)
      · have hc := hb_cell hq
        go_simp
      go_simp; refine hK _ ?_; clear hK K
      repeat (refine G.q_val ?_ (by rfl) (fun wq hq => ?_) (fun K hK => ?_); rotate_left; (have hc := hb_cell hq; go_simp; with_reducible rfl); (go_simp; refine hK _ ?_; clear hK K))
      refine wpQuiet_nil (fun wq hq => ?_)
      have q0 := ck_below hq.out k0
      have q1 := ck_below hq.out k1
      have q2 := ck_below hq.out k2
      have q3 := ck_below hq.out k3
      have q4 := ck_below hq.out k4
      have q5 := ck_below hq.out k5
      have q6 := ck_below hq.out k6
      have z1 : ∀ o, wq.frozen? ⟨w.heap.size, o, none⟩ = false := fun o => fz_below hq.out (z0 o) y0
      have y2 := Nat.lt_of_lt_of_le y0 hq.out.size
      have BB := hb_trans hB hq.out (Nat.le_of_lt y0)
      clear k0 k1 k2 k3 k4 k5 k6 z0 y0 hB hx hq
      go_wp2
      go_roundw
      case rel => first | exact ⟨k + 1, pn, p0, p1, p2, p3, p4, p5, (by go_num), (by omega), (by simp [go_sem, q0, q1, q2, q3, q4, q5, q6]), (by simp [go_sem, q0, q1, q2, q3, q4, q5, q6]), (by simp [go_sem, q0, q1, q2, q3, q4, q5, q6]), (by simp [go_sem, q0, q1, q2, q3, q4, q5, q6]), (by simp [go_sem, q0, q1, q2, q3, q4, q5, q6]), (by simp [go_sem, q0, q1, q2, q3, q4, q5, q6]), (by simp [go_sem, q0, q1, q2, q3, q4, q5, q6]), (fun o => by simp [go_sem, z1]), (by simp [go_sem]; omega), HV, (by repeat (first | (with_reducible exact BB) | (with_reducible refine hb_set ?_ ?_ _) | (dsimp only; omega)))⟩ | ((repeat apply Exists.intro); exact ⟨⟨k + 1, pn, p0, p1, p2, p3, p4, p5, (by go_num), (by omega), (by simp [go_sem, q0, q1, q2, q3, q4, q5, q6]), (by simp [go_sem, q0, q1, q2, q3, q4, q5, q6]), (by simp [go_sem, q0, q1, q2, q3, q4, q5, q6]), (by simp [go_sem, q0, q1, q2, q3, q4, q5, q6]), (by simp [go_sem, q0, q1, q2, q3, q4, q5, q6]), (by simp [go_sem, q0, q1, q2, q3, q4, q5, q6]), (by simp [go_sem, q0, q1, q2, q3, q4, q5, q6]), (fun o => by simp [go_sem, z1]), (by simp [go_sem]; omega), HV, (by repeat (first | (with_reducible exact BB) | (with_reducible refine hb_set ?_ ?_ _) | (dsimp only; omega)))⟩, rfl⟩)
      case measure => simp [intOf]; omega
    · obtain rfl : k = l.length := by omega
      have hs := HW.out
      rw [List.take_length] at hs
      have HF := Lib.hid (fit_W hs)
      clear hs HW
      go_wp2_with fail
      refine (HF.out _).mono ?_
      rintro e w2 ⟨rfl, hb2⟩
      have B2 := hb_trans hB hb2 (Nat.le_of_lt y0)
      go_wp2
      go_ret2
      exact ⟨rfl, B2.out⟩

end Go.Proofs.Ytgcflohlmbdoiaa

/- THE STATEMENT CheckedSums: the sum of any numbers, at most 1000 of them, is that of the document, and they stay unchanged. No condition. -/
import Derived.Test.YtgcflohlmbdoiaaRows
import Derived.WalkKit
import Derived.ProofKit
import Derived.OpenShut
import Derived.Below
import Derived.Carry
import Derived.ChangeOld
import Derived.Lib.SmallJoins
import Derived.Test.YtgcflohlmbdoiaaLI
namespace Go.Proofs.Ytgcflohlmbdoiaa.checkedSums
open Go.ChangeShapes Go.WideShapes Go.ChangeAt Go.RowKit Go.Joins
open M
set_option linter.unusedSimpArgs false
set_option linter.unusedVariables false

theorem own : ownKnob Try.prog.godebug = none := by kernel_rfl
theorem laidOut : laidOutB Try.prog = true := by kernel_rfl


set_option maxRecDepth 100000 in
theorem walk (a0 : Option Addr) (n0 c0 : Nat) (l0 : List Int) (w : World) (w0 : IsInts w a0 n0 l0) :
    Calls Try.prog 3 #[.slice a0 n0 c0] w fun e w' => e = .returned (.bool true) ∧ Below w.heap.size w w' := by
  obtain ⟨rfl, hm, hb, hr⟩ := w0
  by_cases hbig : 1000 < l0.length
  · have hb2 : (1000 : Int) < l0.length := by omega
    unfold maxLen at hm
    go_enter Try.func3, Try.ntmps3
    go_wp2
    go_ret
    exact ⟨rfl, Below.refl _ _⟩
  · have hb2 : ¬ (1000 : Int) < l0.length := by omega
    have own0 := World.ownsRow_lit (base := w.heap.size) (e := 2) (size := 1) w #[] 0 (Nat.le_refl _) (Nat.zero_le _) rfl
    obtain ⟨i0, hi, hz0, hz1, hz2⟩ := info_parts info2
    by_cases h0 : l0.length = 0
    · obtain rfl : l0 = [] := List.length_eq_zero_iff.1 h0
      clear hm hb hr hbig hb2 h0
      have fin : ∀ v' w1, w1.ownsRow w.heap.size 2 1 v' 0 [] → Below w.heap.size w w1 → ∃ a cap, v' = .slice a 0 cap ∧ Hid (Below w.heap.size w w1) := by
        intro v' w1 h hb
        obtain ⟨a, cap, h⟩ := own_none h
        exact ⟨a, cap, h, hb⟩
      have FIN := Lib.hid fin
      clear fin
      cases a0 with
      | none =>
        have hB : Hid (Below w.heap.size w (w.alloc (.cells #[] 2))) := hb_alloc (hb_refl _ _) (Nat.le_refl _) _
        clear own0 FIN
        go_enter Try.func3, Try.ntmps3
        go_wp2_with fail
        refine (sum_none _ _ _).mono ?_
        rintro e w' ⟨rfl, rfl⟩
        go_wp2_with fail
        refine (rsum_none _ _ _).mono ?_
        rintro e w2 ⟨rfl, hb2⟩
        have B2 := hb_trans hB hb2 (Below.size hB)
        clear hb2 hB
        go_wp2
        refine wp_loop_rounds 1 ?_
        rw [rounds_succ]
        go_wp2_with fail
        refine (works_any _).mono ?_
        rintro e w3 ⟨rfl, hb3⟩
        have B3 := hb_trans B2 hb3 (Below.size B2)
        clear hb3 B2
        go_wp2
        go_ret
        exact ⟨rfl, B3.out⟩
      | some x =>
        go_enter Try.func3, Try.ntmps3
        go_wp2_with (at_builtin; refine wpList_append_own _ rfl _ _ 22 rfl w.heap.size 2 i0 (.int .i64 0) 1 8 Try.underlying22 hi hz0 hz1 hz2 rfl (by decide) _ _ _ rfl own0 x 0 c0 [] rfl rfl (by simp) (by simp) (by unfold maxLen; omega) (by omega) (by simp) ?_)
        intro v' w1 hown hgrow _
        obtain ⟨a, cap, rfl, hB⟩ := FIN.out v' w1 (by simpa using hown) (Below.grown (hb_alloc (hb_refl _ _) (Nat.le_refl _) _).out hgrow (by simp) (by intro k e; simp [Value.ownBlock] at e; omega))
        clear hown hgrow own0 FIN
        go_wp2_with fail
        refine (sum_none _ _ _).mono ?_
        rintro e w' ⟨rfl, rfl⟩
        go_wp2_with fail
        refine (rsum_none _ _ _).mono ?_
        rintro e w2 ⟨rfl, hb2⟩
        have B2 := hb_trans hB hb2 (Below.size hB)
        clear hb2 hB
        go_wp2
        refine wp_loop_rounds 1 ?_
        rw [rounds_succ]
        go_wp2_with fail
        refine (works_any _).mono ?_
        rintro e w3 ⟨rfl, hb3⟩
        have B3 := hb_trans B2 hb3 (Below.size B2)
        clear hb3 B2
        go_wp2
        go_ret
        exact ⟨rfl, B3.out⟩
    · have h1 : 0 < l0.length := by omega
      obtain ⟨b, off, rfl, hc⟩ := hr.resolve_left h0
      have HC := Lib.hid hc
      have HB := Lib.hid hb
      have hbw : b < w.heap.size := World.block_lt_of_cell? w _ (hc 0 (by omega))
      unfold maxLen at hm
      clear hc hb hr h0 hbig
      go_enter Try.func3, Try.ntmps3
      go_wp2_with (at_builtin; refine wpList_append_own _ rfl _ _ 22 rfl w.heap.size 2 i0 (.int .i64 0) 1 8 Try.underlying22 hi hz0 hz1 hz2 rfl (by decide) _ _ _ rfl own0 ⟨b, off, none⟩ l0.length c0 (l0.map (Value.int .i64)) rfl (by simp) (fun j u hu => ck_alloc (list_cells HC.out j u hu) _) ints_one (by unfold maxLen; omega) (by omega) (by simp) ?_)
      intro v' w1 hown hgrow _
      have hown2 : w1.ownsRow w.heap.size 2 1 v' l0.length (l0.map (Value.int .i64)) := by simpa using hown
      obtain ⟨-, g, cap, rfl, hg, hgw, hgc⟩ := own_ints hown2 h1
      have hB : Hid (Below w.heap.size w w1) := Below.grown (hb_alloc (hb_refl _ _) (Nat.le_refl _) _).out hgrow (by simp) (by intro k e; simp [Value.ownBlock] at e; omega)
      have cs := sum_cells l0 g 0 cap w1 (by omega) HB.out hgc
      have cr := rsum_cells l0 b off c0 w1 (by omega) HB.out (fun k hk => ck_below hB.out (HC.out k hk))
      obtain ⟨S, hS⟩ : ∃ S, vo l0.sum = S := ⟨_, rfl⟩
      obtain ⟨E, hE⟩ : ∃ E, eo l0.sum = E := ⟨_, rfl⟩
      rw [hS, hE] at cs cr
      have CS := Lib.hid cs
      have CR := Lib.hid cr
      have HG := Lib.hid hgc
      clear hown hown2 hgrow hgc own0 cs cr hS hE
      go_wp2_with fail
      refine CS.out.mono ?_
      rintro e w' ⟨rfl, rfl⟩
      go_wp2_with fail
      refine CR.out.mono ?_
      rintro e w2 ⟨rfl, hb2'⟩
      have HG2 := Lib.hid (fun k hk => ck_below hb2' (HG.out k hk))
      have HC2 := Lib.hid (fun k hk => ck_below hb2' (ck_below hB.out (HC.out k hk)))
      have B2 := hb_trans hB hb2' (Below.size hB)
      clear hb2' HG HC hB CS CR hgw hbw
      go_wp2
      go_loopw [8] (fun i wr => ∃ k : Nat, i = .int .i64 k ∧ k ≤ l0.length ∧ Hid (∀ k, k < l0.length → wr.cell? ⟨g, 0 + k, none⟩ = some (.int .i64 (l0.getD k 0))) ∧ Hid (∀ k, k < l0.length → wr.cell? ⟨b, off + k, none⟩ = some (.int .i64 (l0.getD k 0))) ∧ Hid (Below w.heap.size w wr)) (fun i _ => l0.length - (intOf i).toNat)
      case atStart => exact ⟨0, rfl, by omega, HG2, HC2, B2⟩
      case round =>
        obtain ⟨k, rfl, hk, HG, HC, hB⟩ := hrel
        clear HG2 HC2 B2
        by_cases hlt : k < l0.length
        · have hx := HG.out k hlt
          have hy := HC.out k hlt
          rw [Nat.zero_add] at hx
          obtain ⟨x, hx1⟩ : ∃ x, l0.getD k 0 = x := ⟨_, rfl⟩
          rw [hx1] at hx hy
          clear hx1
          go_wp2
          go_quiet (fail)
          go_wp2
          go_roundw
          case rel => first | exact ⟨k + 1, (by go_num), (by omega), HG.out, HC.out, hb_drewN hB _⟩ | ((repeat apply Exists.intro); exact ⟨⟨k + 1, (by go_num), (by omega), HG.out, HC.out, hb_drewN hB _⟩, rfl⟩)
          case measure => simp [intOf]; omega
        · obtain rfl : k = l0.length := by omega
          go_wp2_with fail
          refine (works_any _).mono ?_
          rintro e w3 ⟨rfl, hb3⟩
          have B3 := hb_trans hB hb3 (Below.size hB)
          go_wp2
          go_ret
          exact ⟨rfl, B3.out⟩

set_option maxRecDepth 100000 in
theorem lifted (os : Os) (started : os.Started) (H : Type) (enc : TypeId × Value → H) :
    ReturnsInHanded {} Try.checked os 3 .any (Rows.checkedSumsSpec.pre6 enc Try.prog Try.f3 Rows.checkedSumsRow.domain false) (Rows.checkedSumsSpec.post enc Try.prog Try.f3 false true false false) := by
  refine returnsInHanded_of_change (C := Try.checked) own started (by kernel_rfl) Try.func3
    (ChangeSpec.witness6 (enc := enc) (C := Try.checked) false ⟨#[], #[.slice none 0 0], []⟩ 8 (by kernel_rfl) (by kernel_rfl) (by kernel_rfl) (by kernel_rfl)) ?_
  intro W base args ds gs before hval0 hW hcnd _
  have hval : ∀ (j : Nat) t v, Try.f3.params[j]? = some t → args[j]? = some v → Value.okWide Try.prog W .any base t v := hval0
  have hW' := hW
  obtain ⟨p, q, hA0, hV, rfl, hfz, hnd⟩ := hW
  have hA : DataW.TrodAll enc Try.prog W 0 (fun _ => true) true Try.f3.params.toList args.toList ds p := hA0
  rw [Try.params3] at hA hval
  obtain ⟨v0, vs0, d0, ds0, p0, q0, hargs, rfl, rfl, h0, r0⟩ := trodAll_cons hA
  obtain ⟨rfl, rfl, rfl⟩ := trodAll_nil r0
  obtain rfl : args = #[v0] := by cases args; simp_all
  obtain ⟨rfl, rfl⟩ := trodVars_none hV
  have k0 := h0
  have lt0 : ∀ x ∈ p0, x.block < W.heap.size := by obtain ⟨m, hm⟩ := k0; exact DataW.trod_lt m _ _ _ hm
  obtain ⟨a0, n0, c0, rfl⟩ := okWide_slice Try.underlying22 (hval 0 22 v0 rfl rfl)
  obtain ⟨l0, w0⟩ : ∃ l, IsInts W a0 n0 l := by
    obtain ⟨fuel, hf⟩ := h0
    rcases open_ints Try.underlying22 Try.underlying2 (by kernel_rfl) hf with ⟨hcs, _⟩ | ⟨x, l, c, zs, hcs, _, hl, hm, hz, _, hcell, hwz⟩
    · simp [Value.cells] at hcs
      obtain ⟨rfl, rfl, rfl⟩ := hcs
      exact isInts_nil W _
    · simp [Value.cells] at hcs
      obtain ⟨rfl, rfl, rfl⟩ := hcs
      exact isInts_row hl hm (by simpa using hz) hcell hwz
  clear hA0 hval0
  refine (walk a0 n0 c0 l0 W w0).mono fun e W' ⟨he, bel⟩ => ?_
  subst he
  exact ⟨_, rfl, _, _, _, [], _, [], hW', trodAll_mk1 (shut_bool Try.underlying4 _), (trodAll_cons_mk (Below.trod laidOut (by kernel_rfl) (of_decide_eq_true (by kernel_rfl)) k0 bel lt0) trodAll_mk0), rfl, bel.frame _, fun h => by cases h⟩

theorem over : Rows.checkedSumsRow.holds Try.pinned (OpenSpec.ofChange Rows.checkedSumsSpec) :=
  OpenClaim.holds_of_wide 3 Try.f3 rfl rfl rfl rfl rfl rfl rfl ⟨rfl, rfl, rfl, rfl, rfl⟩ rfl rfl rfl rfl rfl (by kernel_rfl) Try.func3 (by kernel_rfl)
    (of_decide_eq_true (by kernel_rfl)) (by unfold Func.isWrapper; first | (rw [if_pos (by decide +kernel)]; kernel_rfl) | (rw [if_neg (by decide +kernel)]; exact ⟨rfl, rfl⟩))
    (fun os started H enc _ => lifted os started H enc)

/-- The statement. -/
theorem proved : Rows.CheckedSumsSaid :=
  over
#print axioms proved
end Go.Proofs.Ytgcflohlmbdoiaa.checkedSums

/- THE STATEMENT CheckedOrders: a sum of numbers does not depend on their order, and the sum of two lists is the sum of their sums, where these fit; at most 200 numbers each. No condition. -/
import Derived.Test.YtgcflohlmbdoiaaRows
import Derived.WalkKit
import Derived.ProofKit
import Derived.OpenShut
import Derived.Below
import Derived.Carry
import Derived.ChangeOld
import Derived.Lib.SmallJoins
import Derived.Test.YtgcflohlmbdoiaaLJ
namespace Go.Proofs.Ytgcflohlmbdoiaa.checkedOrders
open Go.ChangeShapes Go.WideShapes Go.ChangeAt Go.RowKit Go.Joins
open M
set_option linter.unusedSimpArgs false
set_option linter.unusedVariables false

theorem own : ownKnob Try.prog.godebug = none := by kernel_rfl
theorem laidOut : laidOutB Try.prog = true := by kernel_rfl


theorem rev_take (L : List Int) (K : Nat) (h : K < L.length) : L.reverse.take (L.length - K) = L.reverse.take (L.length - (K + 1)) ++ [L.getD K 0] := by
  have e : L.length - K = L.length - (K + 1) + 1 := by omega
  rw [e, List.take_succ_eq_append_getElem (by rw [List.length_reverse]; omega), List.getElem_reverse, List.getD_eq_getElem?_getD]
  have e2 : L.length - 1 - (L.length - (K + 1)) = K := by omega
  simp only [e2, List.getElem?_eq_getElem h, Option.getD_some]
theorem src_one {w : World} {x : Int} (h : -9223372036854775808 ≤ x ∧ x ≤ 9223372036854775807) : Src (w.alloc (.cells #[.int .i64 x] 2)) (some ⟨w.heap.size, 0, none⟩) 1 1 [x] := by
  refine ⟨rfl, by decide, by simpa using h, .inr ⟨_, rfl, fun j u hu => ?_⟩⟩
  rcases j with _ | j
  · simp at hu
    subst hu
    simp [Addr.add, go_sem]
  · simp at hu

set_option maxRecDepth 100000 in
theorem walk (a0 : Option Addr) (n0 c0 : Nat) (l0 : List Int) (a1 : Option Addr) (n1 c1 : Nat) (l1 : List Int) (w : World) (w0 : Src w a0 n0 c0 l0) (w1 : Src w a1 n1 c1 l1) :
    Calls Try.prog 6 #[.slice a0 n0 c0, .slice a1 n1 c1] w fun e w' => e = .returned (.bool true) ∧ Below w.heap.size w w' := by
  by_cases g0 : 200 < n0
  · have g0' : (200 : Int) < n0 := by omega
    have hm := w0.2.1
    unfold maxLen at hm
    clear w0 w1
    go_enter Try.func6, Try.ntmps6
    go_wp2
    go_ret
    exact ⟨rfl, Below.refl _ _⟩
  have g0' : ¬ (200 : Int) < n0 := by omega
  by_cases g1 : 200 < n1
  · have g1' : (200 : Int) < n1 := by omega
    have hm := w1.2.1
    unfold maxLen at hm
    clear w0 w1
    go_enter Try.func6, Try.ntmps6
    go_wp2
    go_ret
    exact ⟨rfl, Below.refl _ _⟩
  have g1' : ¬ (200 : Int) < n1 := by omega
  have own0 : (w.alloc (.cells #[] 2)).ownsRow w.heap.size 2 1 (.slice (some ⟨w.heap.size, 0, none⟩) 0 0) 0 (([] : List Int).map (Value.int .i64)) := World.ownsRow_lit (base := w.heap.size) (e := 2) (size := 1) w #[] 0 (Nat.le_refl _) (Nat.zero_le _) rfl
  have b0 : Hid (Below w.heap.size w (w.alloc (.cells #[] 2))) := hb_alloc (hb_refl _ _) (Nat.le_refl _) _
  have W0 := Lib.hid w0
  have W1 := Lib.hid w1
  clear w0 w1
  go_enter Try.func6, Try.ntmps6
  go_wp2_with (at_builtin; refine append_src rfl _ _ rfl w.heap.size 0 _ [] rfl own0 a0 n0 c0 l0 rfl (src_below W0.out b0.out) (by omega) (by simp) ?_)
  intro v1 w1 own1 hb1
  have b1 : Hid (Below w.heap.size w w1) := Below.trans b0.out hb1.out
  clear own0 hb1 b0
  go_wp2_with (at_builtin; refine append_src rfl _ _ rfl w.heap.size n0 _ l0 rfl own1 a1 n1 c1 l1 rfl (src_below W1.out b1.out) (by omega) (Below.size b1) ?_)
  intro v2 w2 own2 hb2
  have b2 : Hid (Below w.heap.size w w2) := Below.trans b1.out hb2.out
  clear own1 hb2 b1
  obtain ⟨L, hL⟩ : ∃ L, l0 ++ l1 = L := ⟨_, rfl⟩
  rw [← List.map_append, hL] at own2
  have HL := Lib.hid hL
  have hLn : L.length = n0 + n1 := by rw [← hL, List.length_append, W0.out.1, W1.out.1]
  have HB : Hid (∀ x ∈ L, -9223372036854775808 ≤ x ∧ x ≤ 9223372036854775807) := by
    intro x hx
    rw [← hL, List.mem_append] at hx
    rcases hx with hx | hx
    · exact W0.out.2.2.1 x hx
    · exact W1.out.2.2.1 x hx
  obtain ⟨N, hN⟩ : ∃ N, n0 + n1 = N := ⟨_, rfl⟩
  rw [hN] at own2 hLn
  have HN := Lib.hid hN
  have HLn := Lib.hid hLn
  have nb : N ≤ 400 := by omega
  clear hL hN hLn
  by_cases h0 : N = 0
  · subst h0
    obtain rfl : L = [] := List.length_eq_zero_iff.1 HLn.out
    obtain ⟨a, cap, rfl⟩ := own_none own2
    have BB := b2
    have CS := Lib.hid (show Calls Try.prog 13 #[.slice a 0 cap] w2 fun e w' => e = .returned (.tuple #[.int .i64 (vo ([] : List Int).sum), .int .i64 (eo ([] : List Int).sum)]) ∧ w2 = w' from sum_none a cap w2)
    have CR := Lib.hid (show Calls Try.prog 13 #[.slice none 0 0] w2 fun e w' => e = .returned (.tuple #[.int .i64 (vo ([] : List Int).sum), .int .i64 (eo ([] : List Int).sum)]) ∧ w2 = w' from sum_none none 0 w2)
    have CA := Lib.hid (sum_src (src_below W0.out b2.out) (by omega))
    have CB := Lib.hid (sum_src (src_below W1.out b2.out) (by omega))
    clear own2 b2
    obtain ⟨L, hL⟩ : ∃ L : List Int, [] = L := ⟨_, rfl⟩
    rw [hL] at CS CR HL
    clear hL
    go_wp2
    refine wp_loop_rounds 1 ?_
    rw [rounds_succ]
    have ls : L.sum = l0.sum + l1.sum := by rw [← HL.out, List.sum_append]
    have cs := CS.out
    have cr := CR.out
    have ca := CA.out
    have cb := CB.out
    rcases eo_cases l0.sum with ⟨ea, -, f0⟩ | ⟨ea, -⟩
    · rcases eo_cases l1.sum with ⟨eb, -, f1⟩ | ⟨eb, -⟩
      · have cd := fun w => add_any l0.sum l1.sum w f0.1 f0.2 f1.1 f1.2
        rw [vo_in f0.1 f0.2, ea] at ca
        rw [vo_in f1.1 f1.2, eb] at cb
        rw [← ls] at cd
        obtain ⟨S, hS⟩ : ∃ S, vo L.sum = S := ⟨_, rfl⟩
        obtain ⟨E, hE⟩ : ∃ E, eo L.sum = E := ⟨_, rfl⟩
        obtain ⟨A, hA⟩ : ∃ A, l0.sum = A := ⟨_, rfl⟩
        obtain ⟨B, hB⟩ : ∃ B, l1.sum = B := ⟨_, rfl⟩
        rw [hS, hE] at cs cr cd
        rw [hA, hB] at cd
        rw [hA] at ca
        rw [hB] at cb
        have CS2 := Lib.hid cs
        have CR2 := Lib.hid cr
        have CA2 := Lib.hid ca
        have CB2 := Lib.hid cb
        have CD2 := Lib.hid cd
        clear cs cr ca cb cd CS CR CA CB ls ea eb hS hE hA hB f0 f1
        go_wp2_with fail
        refine CS2.out.mono ?_
        rintro e w' ⟨rfl, rfl⟩
        go_wp2_with fail
        refine CR2.out.mono ?_
        rintro e w' ⟨rfl, rfl⟩
        go_wp2_with fail
        refine CA2.out.mono ?_
        rintro e w' ⟨rfl, rfl⟩
        go_wp2_with fail
        refine CB2.out.mono ?_
        rintro e w' ⟨rfl, rfl⟩
        go_wp2_with fail
        refine (CD2.out _).mono ?_
        rintro e w' ⟨rfl, rfl⟩
        go_wp2_with fail
        refine (works_any _).mono ?_
        rintro e w9 ⟨rfl, hb9⟩
        have B9 := hb_trans BB hb9 (Below.size BB)
        clear hb9
        go_wp2
        go_ret
        exact ⟨rfl, B9.out⟩
      · clear f0
        obtain ⟨S, hS⟩ : ∃ S, vo L.sum = S := ⟨_, rfl⟩
        obtain ⟨E, hE⟩ : ∃ E, eo L.sum = E := ⟨_, rfl⟩
        obtain ⟨A, hA⟩ : ∃ A, vo l0.sum = A := ⟨_, rfl⟩
        obtain ⟨B, hB⟩ : ∃ B, vo l1.sum = B := ⟨_, rfl⟩
        rw [hS, hE] at cs cr
        rw [hA, ea] at ca
        rw [hB, eb] at cb
        have CS2 := Lib.hid cs
        have CR2 := Lib.hid cr
        have CA2 := Lib.hid ca
        have CB2 := Lib.hid cb
        clear cs cr ca cb CS CR CA CB ls ea eb hS hE hA hB
        go_wp2_with fail
        refine CS2.out.mono ?_
        rintro e w' ⟨rfl, rfl⟩
        go_wp2_with fail
        refine CR2.out.mono ?_
        rintro e w' ⟨rfl, rfl⟩
        go_wp2_with fail
        refine CA2.out.mono ?_
        rintro e w' ⟨rfl, rfl⟩
        go_wp2_with fail
        refine CB2.out.mono ?_
        rintro e w' ⟨rfl, rfl⟩
        go_wp2_with fail
        refine (works_any _).mono ?_
        rintro e w9 ⟨rfl, hb9⟩
        have B9 := hb_trans BB hb9 (Below.size BB)
        clear hb9
        go_wp2
        go_ret
        exact ⟨rfl, B9.out⟩
    · skip
      obtain ⟨G, hG⟩ : ∃ G, eo l1.sum = G := ⟨_, rfl⟩
      obtain ⟨S, hS⟩ : ∃ S, vo L.sum = S := ⟨_, rfl⟩
      obtain ⟨E, hE⟩ : ∃ E, eo L.sum = E := ⟨_, rfl⟩
      obtain ⟨A, hA⟩ : ∃ A, vo l0.sum = A := ⟨_, rfl⟩
      obtain ⟨B, hB⟩ : ∃ B, vo l1.sum = B := ⟨_, rfl⟩
      rw [hS, hE] at cs cr
      rw [hA, ea] at ca
      rw [hB, hG] at cb
      have CS2 := Lib.hid cs
      have CR2 := Lib.hid cr
      have CA2 := Lib.hid ca
      have CB2 := Lib.hid cb
      clear cs cr ca cb CS CR CA CB ls ea hG hS hE hA hB
      go_wp2_with fail
      refine CS2.out.mono ?_
      rintro e w' ⟨rfl, rfl⟩
      go_wp2_with fail
      refine CR2.out.mono ?_
      rintro e w' ⟨rfl, rfl⟩
      go_wp2_with fail
      refine CA2.out.mono ?_
      rintro e w' ⟨rfl, rfl⟩
      go_wp2_with fail
      refine CB2.out.mono ?_
      rintro e w' ⟨rfl, rfl⟩
      go_wp2_with fail
      refine (works_any _).mono ?_
      rintro e w9 ⟨rfl, hb9⟩
      have B9 := hb_trans BB hb9 (Below.size BB)
      clear hb9
      go_wp2
      go_ret
      exact ⟨rfl, B9.out⟩
  · have h1 : 0 < N := by omega
    obtain ⟨-, g, cap, rfl, hgb, hgw, hgc⟩ := own_ints own2 h1
    have HG := Lib.hid hgc
    have OWN := Lib.hid own2
    clear hgc own2 h0
    go_wp2
    go_loopw [6, 7] (fun v i wr => ∃ J : Nat, J ≤ N ∧ i = .int .i64 ((J : Int) - 1) ∧ Hid (wr.ownsRow w2.heap.size 2 1 v (N - J) ((L.reverse.take (N - J)).map (Value.int .i64))) ∧ Hid (Below w2.heap.size w2 wr)) (fun _ i _ => (intOf i + 1).toNat)
    case atStart => exact ⟨N, Nat.le_refl _, by simp, (by rw [Nat.sub_self]; exact World.ownsRow_nil _ _ _ _), hb_refl _ _⟩
    case round =>
      obtain ⟨J, hk, rfl, OW, hB⟩ := hrel
      rcases J with _ | K
      · rw [Nat.sub_zero] at OW
        have e : L.reverse.take N = L.reverse := List.take_of_length_le (by rw [List.length_reverse, HLn.out]; exact Nat.le_refl _)
        rw [e] at OW
        have BB := hb_trans b2 hB (Below.size b2)
        have cs := fun (w : World) (h : wr = w) => sum_cells L g 0 cap wr (by rw [HLn.out]; omega) HB.out (fun k hk => ck_below hB.out (HG.out k hk))
        rw [HLn.out] at cs
        have cr := sum_own OW.out (fun x hx => HB.out x (List.mem_reverse.1 hx)) (by omega)
        rw [List.sum_reverse] at cr
        have ca := sum_src (src_below W0.out BB.out) (by omega)
        have cb := sum_src (src_below W1.out BB.out) (by omega)
        rw [show ((0 : Nat) : Int) - 1 = -1 by rfl]
        have CS := Lib.hid (cs wr rfl)
        have CR := Lib.hid cr
        have CA := Lib.hid ca
        have CB := Lib.hid cb
        clear cs cr ca cb e OW hB b2 OWN hgb hgw HG
        have ls : L.sum = l0.sum + l1.sum := by rw [← HL.out, List.sum_append]
        have cs := CS.out
        have cr := CR.out
        have ca := CA.out
        have cb := CB.out
        rcases eo_cases l0.sum with ⟨ea, -, f0⟩ | ⟨ea, -⟩
        · rcases eo_cases l1.sum with ⟨eb, -, f1⟩ | ⟨eb, -⟩
          · have cd := fun w => add_any l0.sum l1.sum w f0.1 f0.2 f1.1 f1.2
            rw [vo_in f0.1 f0.2, ea] at ca
            rw [vo_in f1.1 f1.2, eb] at cb
            rw [← ls] at cd
            obtain ⟨S, hS⟩ : ∃ S, vo L.sum = S := ⟨_, rfl⟩
            obtain ⟨E, hE⟩ : ∃ E, eo L.sum = E := ⟨_, rfl⟩
            obtain ⟨A, hA⟩ : ∃ A, l0.sum = A := ⟨_, rfl⟩
            obtain ⟨B, hB⟩ : ∃ B, l1.sum = B := ⟨_, rfl⟩
            rw [hS, hE] at cs cr cd
            rw [hA, hB] at cd
            rw [hA] at ca
            rw [hB] at cb
            have CS2 := Lib.hid cs
            have CR2 := Lib.hid cr
            have CA2 := Lib.hid ca
            have CB2 := Lib.hid cb
            have CD2 := Lib.hid cd
            clear cs cr ca cb cd CS CR CA CB ls ea eb hS hE hA hB f0 f1
            go_wp2_with fail
            refine CS2.out.mono ?_
            rintro e w' ⟨rfl, rfl⟩
            go_wp2_with fail
            refine CR2.out.mono ?_
            rintro e w' ⟨rfl, rfl⟩
            go_wp2_with fail
            refine CA2.out.mono ?_
            rintro e w' ⟨rfl, rfl⟩
            go_wp2_with fail
            refine CB2.out.mono ?_
            rintro e w' ⟨rfl, rfl⟩
            go_wp2_with fail
            refine (CD2.out _).mono ?_
            rintro e w' ⟨rfl, rfl⟩
            go_wp2_with fail
            refine (works_any _).mono ?_
            rintro e w9 ⟨rfl, hb9⟩
            have B9 := hb_trans BB hb9 (Below.size BB)
            clear hb9
            go_wp2
            go_ret
            exact ⟨rfl, B9.out⟩
          · clear f0
            obtain ⟨S, hS⟩ : ∃ S, vo L.sum = S := ⟨_, rfl⟩
            obtain ⟨E, hE⟩ : ∃ E, eo L.sum = E := ⟨_, rfl⟩
            obtain ⟨A, hA⟩ : ∃ A, vo l0.sum = A := ⟨_, rfl⟩
            obtain ⟨B, hB⟩ : ∃ B, vo l1.sum = B := ⟨_, rfl⟩
            rw [hS, hE] at cs cr
            rw [hA, ea] at ca
            rw [hB, eb] at cb
            have CS2 := Lib.hid cs
            have CR2 := Lib.hid cr
            have CA2 := Lib.hid ca
            have CB2 := Lib.hid cb
            clear cs cr ca cb CS CR CA CB ls ea eb hS hE hA hB
            go_wp2_with fail
            refine CS2.out.mono ?_
            rintro e w' ⟨rfl, rfl⟩
            go_wp2_with fail
            refine CR2.out.mono ?_
            rintro e w' ⟨rfl, rfl⟩
            go_wp2_with fail
            refine CA2.out.mono ?_
            rintro e w' ⟨rfl, rfl⟩
            go_wp2_with fail
            refine CB2.out.mono ?_
            rintro e w' ⟨rfl, rfl⟩
            go_wp2_with fail
            refine (works_any _).mono ?_
            rintro e w9 ⟨rfl, hb9⟩
            have B9 := hb_trans BB hb9 (Below.size BB)
            clear hb9
            go_wp2
            go_ret
            exact ⟨rfl, B9.out⟩
        · skip
          obtain ⟨G, hG⟩ : ∃ G, eo l1.sum = G := ⟨_, rfl⟩
          obtain ⟨S, hS⟩ : ∃ S, vo L.sum = S := ⟨_, rfl⟩
          obtain ⟨E, hE⟩ : ∃ E, eo L.sum = E := ⟨_, rfl⟩
          obtain ⟨A, hA⟩ : ∃ A, vo l0.sum = A := ⟨_, rfl⟩
          obtain ⟨B, hB⟩ : ∃ B, vo l1.sum = B := ⟨_, rfl⟩
          rw [hS, hE] at cs cr
          rw [hA, ea] at ca
          rw [hB, hG] at cb
          have CS2 := Lib.hid cs
          have CR2 := Lib.hid cr
          have CA2 := Lib.hid ca
          have CB2 := Lib.hid cb
          clear cs cr ca cb CS CR CA CB ls ea hG hS hE hA hB
          go_wp2_with fail
          refine CS2.out.mono ?_
          rintro e w' ⟨rfl, rfl⟩
          go_wp2_with fail
          refine CR2.out.mono ?_
          rintro e w' ⟨rfl, rfl⟩
          go_wp2_with fail
          refine CA2.out.mono ?_
          rintro e w' ⟨rfl, rfl⟩
          go_wp2_with fail
          refine CB2.out.mono ?_
          rintro e w' ⟨rfl, rfl⟩
          go_wp2_with fail
          refine (works_any _).mono ?_
          rintro e w9 ⟨rfl, hb9⟩
          have B9 := hb_trans BB hb9 (Below.size BB)
          clear hb9
          go_wp2
          go_ret
          exact ⟨rfl, B9.out⟩
      · have hx := ck_below hB.out (HG.out K (by rw [HLn.out]; omega))
        have rt := rev_take L K (by rw [HLn.out]; omega)
        rw [HLn.out] at rt
        rw [Nat.zero_add] at hx
        obtain ⟨x, hx1⟩ : ∃ x, L.getD K 0 = x := ⟨_, rfl⟩
        have xb : -9223372036854775808 ≤ x ∧ x ≤ 9223372036854775807 := by
          rw [← hx1, List.getD_eq_getElem?_getD, List.getElem?_eq_getElem (by rw [HLn.out]; omega)]
          exact HB.out _ (by simp)
        rw [hx1] at hx rt
        have RT := Lib.hid rt
        have XB := Lib.hid xb
        rw [show ((K + 1 : Nat) : Int) - 1 = K by omega]
        have bsz := Below.size hB.out
        clear hx1 rt xb
        go_wp2_with (at_builtin; refine append_src rfl _ _ rfl w2.heap.size (N - (K + 1)) _ (L.reverse.take (N - (K + 1))) rfl (World.ownsRow.alloc OW.out _) (some ⟨wr.heap.size, 0, none⟩) 1 1 [x] rfl (src_one XB.out) (by omega) (by simp; omega) ?_)
        intro v' w3 own3 hb3
        have b3 : Hid (Below w2.heap.size w2 w3) := Below.trans (hb_alloc hB bsz _).out hb3.out
        have own4 : Hid (w3.ownsRow w2.heap.size 2 1 v' (N - K) ((L.reverse.take (N - K)).map (Value.int .i64))) := by
          rw [RT.out, List.map_append]
          have e : N - K = N - (K + 1) + 1 := by omega
          rw [e]
          refine Lib.hid ?_
          simpa using own3
        clear own3 hb3 OW hB hx
        go_wp2
        go_roundw
        case rel => first | exact ⟨K, (by omega), (by simp), own4, b3⟩ | ((repeat apply Exists.intro); exact ⟨⟨K, (by omega), (by simp), own4, b3⟩, rfl⟩)
        case measure => first | (simp [intOf]; done) | (simp [intOf]; omega)

set_option maxRecDepth 100000 in
theorem lifted (os : Os) (started : os.Started) (H : Type) (enc : TypeId × Value → H) :
    ReturnsInHanded {} Try.checked os 6 .any (Rows.checkedOrdersSpec.pre6 enc Try.prog Try.f6 Rows.checkedOrdersRow.domain false) (Rows.checkedOrdersSpec.post enc Try.prog Try.f6 false true false false) := by
  refine returnsInHanded_of_change (C := Try.checked) own started (by kernel_rfl) Try.func6
    (ChangeSpec.witness6 (enc := enc) (C := Try.checked) false ⟨#[], #[.slice none 0 0, .slice none 0 0], []⟩ 8 (by kernel_rfl) (by kernel_rfl) (by kernel_rfl) (by kernel_rfl)) ?_
  intro W base args ds gs before hval0 hW hcnd _
  have hval : ∀ (j : Nat) t v, Try.f6.params[j]? = some t → args[j]? = some v → Value.okWide Try.prog W .any base t v := hval0
  have hW' := hW
  obtain ⟨p, q, hA0, hV, rfl, hfz, hnd⟩ := hW
  have hA : DataW.TrodAll enc Try.prog W 0 (fun _ => true) true Try.f6.params.toList args.toList ds p := hA0
  rw [Try.params6] at hA hval
  obtain ⟨v0, vs0, d0, ds0, p0, q0, hargs, rfl, rfl, h0, r0⟩ := trodAll_cons hA
  obtain ⟨v1, vs1, d1, ds1, p1, q1, rfl, rfl, rfl, h1, r1⟩ := trodAll_cons r0
  obtain ⟨rfl, rfl, rfl⟩ := trodAll_nil r1
  obtain rfl : args = #[v0, v1] := by cases args; simp_all
  obtain ⟨rfl, rfl⟩ := trodVars_none hV
  have k0 := h0
  have lt0 : ∀ x ∈ p0, x.block < W.heap.size := by obtain ⟨m, hm⟩ := k0; exact DataW.trod_lt m _ _ _ hm
  have k1 := h1
  have lt1 : ∀ x ∈ p1, x.block < W.heap.size := by obtain ⟨m, hm⟩ := k1; exact DataW.trod_lt m _ _ _ hm
  obtain ⟨a0, n0, c0, rfl⟩ := okWide_slice Try.underlying22 (hval 0 22 v0 rfl rfl)
  obtain ⟨l0, w0⟩ : ∃ l, Src W a0 n0 c0 l := by
    obtain ⟨fuel, hf⟩ := h0
    rcases open_ints Try.underlying22 Try.underlying2 (by kernel_rfl) hf with ⟨hcs, _⟩ | ⟨x, l, c, zs, hcs, _, hl, hm, hz, _, hcell, hwz⟩
    · simp [Value.cells] at hcs
      obtain ⟨rfl, rfl, rfl⟩ := hcs
      exact src_nil W
    · simp [Value.cells] at hcs
      obtain ⟨rfl, rfl, rfl⟩ := hcs
      exact src_row hl hm (by simpa using hz) hcell hwz
  obtain ⟨a1, n1, c1, rfl⟩ := okWide_slice Try.underlying22 (hval 1 22 v1 rfl rfl)
  obtain ⟨l1, w1⟩ : ∃ l, Src W a1 n1 c1 l := by
    obtain ⟨fuel, hf⟩ := h1
    rcases open_ints Try.underlying22 Try.underlying2 (by kernel_rfl) hf with ⟨hcs, _⟩ | ⟨x, l, c, zs, hcs, _, hl, hm, hz, _, hcell, hwz⟩
    · simp [Value.cells] at hcs
      obtain ⟨rfl, rfl, rfl⟩ := hcs
      exact src_nil W
    · simp [Value.cells] at hcs
      obtain ⟨rfl, rfl, rfl⟩ := hcs
      exact src_row hl hm (by simpa using hz) hcell hwz
  clear hA0 hval0
  refine (walk a0 n0 c0 l0 a1 n1 c1 l1 W w0 w1).mono fun e W' ⟨he, bel⟩ => ?_
  subst he
  exact ⟨_, rfl, _, _, _, [], _, [], hW', trodAll_mk1 (shut_bool Try.underlying4 _), (trodAll_cons_mk (Below.trod laidOut (by kernel_rfl) (of_decide_eq_true (by kernel_rfl)) k0 bel lt0) (trodAll_cons_mk (Below.trod laidOut (by kernel_rfl) (of_decide_eq_true (by kernel_rfl)) k1 bel lt1) trodAll_mk0)), rfl, bel.frame _, fun h => by cases h⟩

theorem over : Rows.checkedOrdersRow.holds Try.pinned (OpenSpec.ofChange Rows.checkedOrdersSpec) :=
  OpenClaim.holds_of_wide 6 Try.f6 rfl rfl rfl rfl rfl rfl rfl ⟨rfl, rfl, rfl, rfl, rfl⟩ rfl rfl rfl rfl rfl (by kernel_rfl) Try.func6 (by kernel_rfl)
    (of_decide_eq_true (by kernel_rfl)) (by unfold Func.isWrapper; first | (rw [if_pos (by decide +kernel)]; kernel_rfl) | (rw [if_neg (by decide +kernel)]; exact ⟨rfl, rfl⟩))
    (fun os started H enc _ => lifted os started H enc)

/-- The statement. -/
theorem proved : Rows.CheckedOrdersSaid :=
  over
#print axioms proved
end Go.Proofs.Ytgcflohlmbdoiaa.checkedOrders

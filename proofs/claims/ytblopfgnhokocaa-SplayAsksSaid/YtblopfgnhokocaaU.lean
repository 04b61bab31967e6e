/- THE STATEMENTS about sequences: do, played. -/
import Derived.Test.YtblopfgnhokocaaT
namespace Go.Proofs.Ytblopfgnhokocaa
open Go.RowKit P
set_option linter.unusedVariables false
set_option linter.unusedSimpArgs false

/-- A step in small numbers. -/
def doS (o : SSt) (d x y z : Int) : SSt :=
  if d % 6 ≤ 2 then joinSS o (x % 40) (y % 40) else if d % 6 = 3 then splitS o (x % 40) else if d % 6 = 4 then revS o (x % 40) else setS o (x % 40) z
theorem joinSE_same {L : List (List Nat)} {V : List Int} (hV : V.length = 40) {x y : Int} (hx : 0 ≤ x ∧ x < 40) (hy : 0 ≤ y ∧ y < 40) :
    (sameR (some (L, V)) x y = true ∧ joinSE (some (L, V)) x y = 6) ∨ (sameR (some (L, V)) x y = false ∧ joinSE (some (L, V)) x y = 0) := by
  have n1 : nodeB V x = true := nodeB_yes hx.1 (by omega)
  have n2 : nodeB V y = true := nodeB_yes hy.1 (by omega)
  show (sameB L V x y = true ∧ joinE L V x y = 6) ∨ _
  unfold sameR joinSE sameB joinE
  simp only [n1, n2, Bool.true_and, Bool.not_true, Bool.or_self, Bool.false_eq_true, if_false]
  by_cases hm : y.toNat ∈ lst L x.toNat
  · exact .inl ⟨decide_eq_true hm, if_pos hm⟩
  · exact .inr ⟨decide_eq_false hm, if_neg hm⟩
theorem setE_ok {L : List (List Nat)} {V : List Int} (hV : V.length = 40) {x : Int} (hx : 0 ≤ x ∧ x < 40) : setE (some (L, V)) x = 0 := by
  show (if nodeB V x then (0 : Int) else 3) = 0; rw [nodeB_yes hx.1 (by omega)]; rfl
theorem Sp.step {w w1 w' : World} {lo hi : Nat} {v : Value} {o : SSt} {r r' : Value} {e e' : Ending} (m : Mod lo hi w w1) (h : Sp w1 lo hi v o r e w') (he : e' = .returned r') : Sp w lo hi v o r' e' w' := ⟨he, h.2.1, m.trans h.2.2⟩

set_option maxHeartbeats 1000000 in
set_option maxRecDepth 100000 in
theorem do_any {w : World} {lo hi : Nat} {v : Value} {L : List (List Nat)} {V : List Int} (h : PSo w lo hi v (some (L, V))) (hV : V.length = 40) (hhi : hi ≤ w.heap.size) (d x y z : Int) (hz : In64 z) (hd : 0 ≤ d ∧ d ≤ 255) (hx : 0 ≤ x ∧ x ≤ 255) (hy : 0 ≤ y ∧ y ≤ 255) :
    Calls Try.prog 31 #[v, .agg #[.int .u8 d, .int .u8 x, .int .u8 y, .int .i64 z]] w (Sp w lo hi v (doS (some (L, V)) d x y z) (.bool true)) := by
  have cx : 0 ≤ x % 40 ∧ x % 40 < 40 := by omega
  have cy : 0 ≤ y % 40 ∧ y % 40 < 40 := by omega
  have FO := Lib.hid (joinSE_same (L := L) hV cx cy)
  have FE := Lib.hid (setE_ok (L := L) hV cx)
  have HH : Hid (∀ ob, PSo (w.alloc ob).drew lo hi v (some (L, V))) := fun ob => h.below (Below.drew ((Below.refl _ _).alloc (Nat.le_refl _) _))
  have HM : Hid (∀ ob, Mod lo hi w (w.alloc ob).drew) := fun ob => ((Mod.refl lo hi w).alloc ob).drew
  have HZ := Lib.hid hz
  obtain ⟨o, ho⟩ : ∃ o : SSt, some (L, V) = o := ⟨_, rfl⟩
  rw [ho] at HH FO FE ⊢
  clear h hV cx cy ho hz
  have hs : 0 ≤ d % 6 := by omega
  have hs6 : d % 6 < 6 := by omega
  by_cases h2 : d % 6 ≤ 2
  · have FS : Hid (doS o d x y z = joinSS o (x % 40) (y % 40)) := by show _ = _; unfold doS; rw [if_pos h2]
    by_cases h0 : d % 6 = 0
    case' pos => have b0 : (d % 6 == 0) = true := by simp [h0]
    case' neg =>
      by_cases h1 : d % 6 = 1
      case' pos =>
        have b0 : (d % 6 == 0) = false := by simp [h1]
        have b1 : (d % 6 == 1) = true := by simp [h1]
      case' neg =>
        have h22 : d % 6 = 2 := by omega
        have b0 : (d % 6 == 0) = false := by simp [h22]
        have b1 : (d % 6 == 1) = false := by simp [h22]
        have b2 : (d % 6 == 2) = true := by simp [h22]
    all_goals
      clear h2 hs hs6
      try clear h1
      try clear h0
      try clear h22
      rw [FS.out]
      go_enter Try.func31, Try.ntmps31
      go_wp2
      go_region
      go_wp2_with fail
      refine (same_so (HH.out _) _ _).mono ?_
      rintro e w1 ⟨rfl, p1, m1⟩
      have P1 := Lib.hid p1
      have M1 : Hid (Mod lo hi w w1) := (HM.out _).trans m1
      obtain ⟨r, hr⟩ : ∃ r, sameR o (x % 40) (y % 40) = r := ⟨_, rfl⟩
      rw [hr] at FO ⊢
      clear p1 m1 hr
      go_wp2_with fail
      refine (join_so P1.out _ _).mono ?_
      rintro e w2 ⟨rfl, p2, m2⟩
      have FIN : Hid (Sp w lo hi v (joinSS o (x % 40) (y % 40)) (.bool true) (.returned (.bool true)) w2) := ⟨rfl, p2, M1.out.trans m2⟩
      obtain ⟨q, hq⟩ : ∃ q, joinSE o (x % 40) (y % 40) = q := ⟨_, rfl⟩
      rw [hq] at FO ⊢
      clear p2 m2 hq
      rcases FO.out with ⟨rfl, rfl⟩ | ⟨rfl, rfl⟩
      · go_wp2
        go_ret
        exact FIN.out
      · go_wp2
        go_ret
        exact FIN.out
  by_cases h3 : d % 6 = 3
  · have FS : Hid (doS o d x y z = splitS o (x % 40)) := by show _ = _; unfold doS; simp [h3]
    have b0 : (d % 6 == 0) = false := by simp [h3]
    have b1 : (d % 6 == 1) = false := by simp [h3]
    have b2 : (d % 6 == 2) = false := by simp [h3]
    have b3 : (d % 6 == 3) = true := by simp [h3]
    have b4 : (d % 6 == 4) = false := by simp [h3]
    clear h2 hs hs6 h3
    rw [FS.out]
    go_enter Try.func31, Try.ntmps31
    go_wp2
    go_region
    go_wp2_with fail
    refine (split_so (HH.out _) _).mono ?_
    rintro e w1 ⟨rfl, p1, m1⟩
    have FIN : Hid (Sp w lo hi v (splitS o (x % 40)) (.bool true) (.returned (.bool true)) w1) := ⟨rfl, p1, (HM.out _).trans m1⟩
    rw [FE.out]
    clear p1 m1
    go_wp2
    go_ret
    exact FIN.out
  by_cases h4 : d % 6 = 4
  · have FS : Hid (doS o d x y z = revS o (x % 40)) := by show _ = _; unfold doS; simp [h4]
    have b0 : (d % 6 == 0) = false := by simp [h4]
    have b1 : (d % 6 == 1) = false := by simp [h4]
    have b2 : (d % 6 == 2) = false := by simp [h4]
    have b3 : (d % 6 == 3) = false := by simp [h4]
    have b4 : (d % 6 == 4) = true := by simp [h4]
    clear h2 hs hs6 h4
    rw [FS.out]
    go_enter Try.func31, Try.ntmps31
    go_wp2
    go_region
    go_wp2_with fail
    refine (reverse_so (HH.out _) _).mono ?_
    rintro e w1 ⟨rfl, p1, m1⟩
    have FIN : Hid (Sp w lo hi v (revS o (x % 40)) (.bool true) (.returned (.bool true)) w1) := ⟨rfl, p1, (HM.out _).trans m1⟩
    rw [FE.out]
    clear p1 m1
    go_wp2
    go_ret
    exact FIN.out
  have h5 : d % 6 = 5 := by omega
  have FS : Hid (doS o d x y z = setS o (x % 40) z) := by show _ = _; unfold doS; simp [h5]
  have b0 : (d % 6 == 0) = false := by simp [h5]
  have b1 : (d % 6 == 1) = false := by simp [h5]
  have b2 : (d % 6 == 2) = false := by simp [h5]
  have b3 : (d % 6 == 3) = false := by simp [h5]
  have b4 : (d % 6 == 4) = false := by simp [h5]
  clear h2 hs hs6 h3 h4 h5
  rw [FS.out]
  go_enter Try.func31, Try.ntmps31
  go_wp2
  go_region
  go_wp2_with fail
  refine (set_so (HH.out _) _ _ HZ.out).mono ?_
  rintro e w1 ⟨rfl, p1, m1⟩
  have FIN : Hid (Sp w lo hi v (setS o (x % 40) z) (.bool true) (.returned (.bool true)) w1) := ⟨rfl, p1, (HM.out _).trans m1⟩
  rw [FE.out]
  clear p1 m1
  go_wp2
  go_ret
  exact FIN.out
end Go.Proofs.Ytblopfgnhokocaa

/- THE STATEMENT HistoMerges: merging two histograms, or one with itself, gives what the document says; at most 200 bounds and steps. No condition. -/
import Derived.Test.YtpfdoifkimjlbaaRows
import Derived.WalkKit
import Derived.ProofKit
import Derived.OpenShut
import Derived.Below
import Derived.Carry
import Derived.ChangeOld
import Derived.Lib.SmallJoins
import Derived.Test.YtpfdoifkimjlbaaO
import Derived.Test.YtpfdoifkimjlbaaU
import Derived.Test.YtpfdoifkimjlbaaO2
set_option linter.unusedSimpArgs false
set_option linter.unusedVariables false
namespace Go.Proofs.Ytpfdoifkimjlbaa.histoMerges
open Go.ChangeShapes Go.WideShapes Go.ChangeAt Go.RowKit Go.Joins
open H M
theorem own : ownKnob Try.prog.godebug = none := by kernel_rfl
theorem laidOut : laidOutB Try.prog = true := by kernel_rfl
theorem cells52 : Try.prog.cellsOf 52 = 4 := by kernel_rfl
set_option maxHeartbeats 4000000 in
set_option maxRecDepth 100000 in
theorem walk (aA : Option Addr) (nA cA bA : Nat) (lA : List Int) (aB : Option Addr) (nB cB bB : Nat) (lB : List Int) (aL : Option Addr) (nL cL bL : Nat) (fL : Nat → Nat → Int) (aM : Option Addr) (nM cM bM : Nat) (fM : Nat → Nat → Int) (a1 : Bool) (w : World) (wA : Ints w bA aA nA cA lA) (qA : nA ≤ cA ∧ cA ≤ maxLen) (wB : Ints w bB aB nB cB lB) (qB : nB ≤ cB ∧ cB ≤ maxLen) (wL : Recs w bL aL nL 2 (fun _ => .i64) fL) (qL : nL ≤ cL ∧ cL ≤ maxLen) (wM : Recs w bM aM nM 2 (fun _ => .i64) fM) (qM : nM ≤ cM ∧ cM ≤ maxLen) :
    Calls Try.prog 9 #[.agg #[.slice aA nA cA, .slice aB nB cB, .slice aL nL cL, .slice aM nM cM], .bool a1] w fun e w' => e = .returned (.bool true) ∧ Below w.heap.size w w' := by
  by_cases gA : 200 < nA
  · have gA' : (200 : Int) < nA := by omega
    unfold maxLen at qA qB qL qM
    clear wA wB wL wM
    have B1 : Hid (∀ o, Below w.heap.size w (w.alloc o)) := fun o => (Below.refl _ _).alloc (Nat.le_refl _) _
    have BS : Hid (∀ o, w.heap.size ≤ (w.alloc o).heap.size) := fun o => by simp
    go_enter Try.func9, Try.ntmps9
    go_wp2_with fail
    refine (works_any _).mono ?_
    rintro e w9 ⟨rfl, hb9⟩
    have B9 := Lib.hid ((B1.out _).trans (hb9.mono (BS.out _)))
    clear hb9
    go_wp2
    go_ret
    exact ⟨rfl, B9.out⟩
  have gA' : ¬ (200 : Int) < nA := by omega
  by_cases gB : 200 < nB
  · have gB' : (200 : Int) < nB := by omega
    unfold maxLen at qA qB qL qM
    clear wA wB wL wM
    have B1 : Hid (∀ o, Below w.heap.size w (w.alloc o)) := fun o => (Below.refl _ _).alloc (Nat.le_refl _) _
    have BS : Hid (∀ o, w.heap.size ≤ (w.alloc o).heap.size) := fun o => by simp
    go_enter Try.func9, Try.ntmps9
    go_wp2_with fail
    refine (works_any _).mono ?_
    rintro e w9 ⟨rfl, hb9⟩
    have B9 := Lib.hid ((B1.out _).trans (hb9.mono (BS.out _)))
    clear hb9
    go_wp2
    go_ret
    exact ⟨rfl, B9.out⟩
  have gB' : ¬ (200 : Int) < nB := by omega
  by_cases gL : 200 < nL
  · have gL' : (200 : Int) < nL := by omega
    unfold maxLen at qA qB qL qM
    clear wA wB wL wM
    have B1 : Hid (∀ o, Below w.heap.size w (w.alloc o)) := fun o => (Below.refl _ _).alloc (Nat.le_refl _) _
    have BS : Hid (∀ o, w.heap.size ≤ (w.alloc o).heap.size) := fun o => by simp
    go_enter Try.func9, Try.ntmps9
    go_wp2_with fail
    refine (works_any _).mono ?_
    rintro e w9 ⟨rfl, hb9⟩
    have B9 := Lib.hid ((B1.out _).trans (hb9.mono (BS.out _)))
    clear hb9
    go_wp2
    go_ret
    exact ⟨rfl, B9.out⟩
  have gL' : ¬ (200 : Int) < nL := by omega
  by_cases gM : 200 < nM
  · have gM' : (200 : Int) < nM := by omega
    unfold maxLen at qA qB qL qM
    clear wA wB wL wM
    have B1 : Hid (∀ o, Below w.heap.size w (w.alloc o)) := fun o => (Below.refl _ _).alloc (Nat.le_refl _) _
    have BS : Hid (∀ o, w.heap.size ≤ (w.alloc o).heap.size) := fun o => by simp
    go_enter Try.func9, Try.ntmps9
    go_wp2_with fail
    refine (works_any _).mono ?_
    rintro e w9 ⟨rfl, hb9⟩
    have B9 := Lib.hid ((B1.out _).trans (hb9.mono (BS.out _)))
    clear hb9
    go_wp2
    go_ret
    exact ⟨rfl, B9.out⟩
  have gM' : ¬ (200 : Int) < nM := by omega
  have rA : nA ≤ maxLen := by omega
  have rB : nB ≤ maxLen := by omega
  have rL : nL ≤ maxLen := by omega
  have rM : nM ≤ maxLen := by omega
  unfold maxLen at qA qB qL qM
  have BF : Below w.heap.size w (w.alloc (.cells #[.slice aA nA cA, .slice aB nB cB, .slice aL nL cL, .slice aM nM cM] 52)) := (Below.refl _ _).alloc (Nat.le_refl _) _
  have HF1 := Lib.hid (filled_any (c1 := cL) (wA.below BF) rA (wL.below (by decide) BF) rL)
  have HF2 : Hid (∀ W, Below w.heap.size w W → Calls Try.prog 15 #[.slice aB nB cB, .slice aM nM cM] W (Filled W (fill (new lB) fM nM))) := fun W hW => filled_any (wB.below hW) rB (wM.below (by decide) hW) rM
  obtain ⟨o1, ho1⟩ : ∃ o, fill (new lA) fL nL = o := ⟨_, rfl⟩
  obtain ⟨o2, ho2⟩ : ∃ o, fill (new lB) fM nM = o := ⟨_, rfl⟩
  rw [ho1] at HF1
  rw [ho2] at HF2
  have BF' := Lib.hid BF
  clear wA wB wL wM rA rB rL rM ho1 ho2 BF
  go_enter Try.func9, Try.ntmps9
  go_wp2_with fail
  refine HF1.out.mono ?_
  rintro e w1 ⟨v, u, m, rfl, s1, s2, hP, hR, hb⟩
  have P1 := Lib.hid hP
  have R1 := Lib.hid hR
  have k0 := ckb hb (show (w.alloc (.cells #[.slice aA nA cA, .slice aB nB cB, .slice aL nL cL, .slice aM nM cM] 52)).cell? ⟨w.heap.size, 1, none⟩ = some (.slice aB nB cB) by simp [go_sem])
  have k1 := ckb hb (show (w.alloc (.cells #[.slice aA nA cA, .slice aB nB cB, .slice aL nL cL, .slice aM nM cM] 52)).cell? ⟨w.heap.size, 3, none⟩ = some (.slice aM nM cM) by simp [go_sem])
  have B1 : Hid (Below w.heap.size w w1) := BF'.out.trans (hb.mono (by simp))
  have y0 : w.heap.size < w1.heap.size := by have := hb.size; simp at this; omega
  have S1 : w.heap.size + 1 ≤ m := by simp at s1; exact s1
  have S2 := s2
  have e1 : (w.alloc (.cells #[.slice aA nA cA, .slice aB nB cB, .slice aL nL cL, .slice aM nM cM] 52)).heap.size = w.heap.size + 1 := by simp
  rw [e1] at P1
  clear hP hR hb HF1 s1 s2 e1
  go_wp2_with fail
  refine (HF2.out _ B1.out).mono ?_
  rintro e w2 ⟨v2, u2, m2, rfl, t1, t2, hP, hR, hb⟩
  have P2 := Lib.hid hP
  have R2 := Lib.hid hR
  have P1' := Lib.hid (P1.out.below hb)
  have R1' := Lib.hid (R1.out.below hb)
  have B2 := hb_trans' B1 hb (Below.size B1)
  have T3 := hb.size
  clear hP hR hb HF2 P1 R1 B1 k0 k1 y0
  rcases a1 with _ | _
  · have MM := Lib.hid (merge_any P1'.out P2.out)
    clear BF'
    go_wp2_with fail
    refine MM.out.mono ?_
    rintro e w3 ⟨rfl, hP3, hm3⟩
    have P3 := Lib.hid hP3
    have R3 := Lib.hid (R1'.out.mod hm3 (.inr (Nat.le_refl _)))
    have P4 := Lib.hid (P2.out.mod hm3 (.inr (by omega)))
    have R4 := Lib.hid (R2.out.mod hm3 (.inr (by omega)))
    have B3 := Mod.hb B2 hm3 (by omega) (Below.size B2)
    have RM := Lib.hid (rmerge_any R3.out R4.out)
    obtain ⟨ne, hne⟩ : ∃ ne, mergeE o1 o2 = ne := ⟨_, rfl⟩
    obtain ⟨s, hs⟩ : ∃ s, mergeS o1 o2 = s := ⟨_, rfl⟩
    rw [hne, hs] at RM
    rw [hs] at P3
    rw [hne]
    clear hP3 hm3 MM P1' R1' P2 R2 B2 hne hs R3
    go_wp2_with fail
    refine RM.out.mono ?_
    rintro e w4 ⟨rfl, hR5, hm5⟩
    have R5 := Lib.hid hR5
    have P5 := Lib.hid (P3.out.mod hm5 (.inl (Nat.le_refl _)))
    have P6 := Lib.hid (P4.out.mod hm5 (.inr (by omega)))
    have R6 := Lib.hid (R4.out.mod hm5 (.inr (by omega)))
    have B4 := Mod.hb B3 hm5 (by omega) (Below.size B3)
    clear hR5 hm5 RM P3 P4 R4 B3
    go_wp2_with fail
    refine (agree_any P5.out R5.out 0).mono ?_
    rintro e w5 ⟨rfl, hb⟩
    have P7 := Lib.hid (P6.out.below hb)
    have R7 := Lib.hid (R6.out.below hb)
    have B5 := hb_trans' B4 hb (Below.size B4)
    clear hb P5 R5 P6 R6 B4
    go_wp2_with fail
    refine (agree_any P7.out R7.out 0).mono ?_
    rintro e w6 ⟨rfl, hb⟩
    have HB5 := hb_trans' B5 hb (Below.size B5)
    clear hb P7 R7 B5
    go_wp2_with fail
    refine (works_any _).mono ?_
    rintro e w9 ⟨rfl, hb9⟩
    have B9 := hb_trans' HB5 hb9 (Below.size HB5)
    clear hb9
    go_wp2
    go_ret
    exact ⟨rfl, B9.out⟩
  · have MM := Lib.hid (merge_any P1'.out P1'.out)
    clear P2 R2 BF'
    go_wp2_with fail
    refine MM.out.mono ?_
    rintro e w3 ⟨rfl, hP3, hm3⟩
    have P3 := Lib.hid hP3
    have R3 := Lib.hid (R1'.out.mod hm3 (.inr (Nat.le_refl _)))
    have B3 := Mod.hb B2 hm3 (by omega) (Below.size B2)
    have RM := Lib.hid (rmerge_any R3.out R3.out)
    obtain ⟨ne, hne⟩ : ∃ ne, mergeE o1 o1 = ne := ⟨_, rfl⟩
    obtain ⟨s, hs⟩ : ∃ s, mergeS o1 o1 = s := ⟨_, rfl⟩
    rw [hne, hs] at RM
    rw [hs] at P3
    rw [hne]
    clear hP3 hm3 MM P1' R1' B2 hne hs R3
    go_wp2_with fail
    refine RM.out.mono ?_
    rintro e w4 ⟨rfl, hR5, hm5⟩
    have R5 := Lib.hid hR5
    have P5 := Lib.hid (P3.out.mod hm5 (.inl (Nat.le_refl _)))
    have B4 := Mod.hb B3 hm5 (by omega) (Below.size B3)
    clear hR5 hm5 RM P3 B3
    go_wp2_with fail
    refine (agree_any P5.out R5.out 0).mono ?_
    rintro e w5 ⟨rfl, hb⟩
    have P7 := Lib.hid (P5.out.below hb)
    have R7 := Lib.hid (R5.out.below hb)
    have B5 := hb_trans' B4 hb (Below.size B4)
    clear hb P5 R5 B4
    go_wp2_with fail
    refine (agree_any P7.out R7.out 0).mono ?_
    rintro e w6 ⟨rfl, hb⟩
    have HB5 := hb_trans' B5 hb (Below.size B5)
    clear hb P7 R7 B5
    go_wp2_with fail
    refine (works_any _).mono ?_
    rintro e w9 ⟨rfl, hb9⟩
    have B9 := hb_trans' HB5 hb9 (Below.size HB5)
    clear hb9
    go_wp2
    go_ret
    exact ⟨rfl, B9.out⟩

set_option maxRecDepth 100000 in
theorem lifted (os : Os) (started : os.Started) (H : Type) (enc : TypeId × Value → H) :
    ReturnsInHanded {} Try.checked os 9 .any (Rows.histoMergesSpec.pre6 enc Try.prog Try.f9 Rows.histoMergesRow.domain false) (Rows.histoMergesSpec.post enc Try.prog Try.f9 false true false false) := by
  refine returnsInHanded_of_change (C := Try.checked) own started (by kernel_rfl) Try.func9
    (ChangeSpec.witness6 (enc := enc) (C := Try.checked) false ⟨#[], #[.agg #[.slice none 0 0, .slice none 0 0, .slice none 0 0, .slice none 0 0], .bool false], []⟩ 8 (by kernel_rfl) (by kernel_rfl) (by kernel_rfl) (by kernel_rfl)) ?_
  intro W base args ds gs before hval0 hW hcnd _
  have hval : ∀ (j : Nat) t v, Try.f9.params[j]? = some t → args[j]? = some v → Value.okWide Try.prog W .any base t v := hval0
  have hW' := hW
  obtain ⟨p, q, hA0, hV, rfl, hfz, hnd⟩ := hW
  have hA : DataW.TrodAll enc Try.prog W 0 (fun _ => true) true Try.f9.params.toList args.toList ds p := hA0
  rw [Try.params9] at hA hval
  obtain ⟨v0, vs0, d0, ds0, p0, q0, hargs, rfl, rfl, h0, r0⟩ := trodAll_cons hA
  obtain ⟨v1, vs1, d1, ds1, p1, q1, rfl, rfl, rfl, h1, r1⟩ := trodAll_cons r0
  obtain ⟨rfl, rfl, rfl⟩ := trodAll_nil r1
  obtain rfl : args = #[v0, v1] := by cases args; simp_all
  obtain ⟨rfl, rfl⟩ := trodVars_none hV
  have k0 := h0
  have lt0 : ∀ x ∈ p0, x.block < W.heap.size := by obtain ⟨m, hm⟩ := k0; exact DataW.trod_lt m _ _ _ hm
  have k1 := h1
  have lt1 : ∀ x ∈ p1, x.block < W.heap.size := by obtain ⟨m, hm⟩ := k1; exact DataW.trod_lt m _ _ _ hm
  obtain ⟨e0, e1, e2, e3, y0, y1, y2, y3, mm, rfl, -, -, hy0, hy1, hy2, hy3⟩ := open_agg4 Try.underlying52 (by kernel_rfl) cells52 (hval 0 52 v0 rfl rfl) h0
  obtain ⟨aA, nA, cA, bA, lA, rfl, wA, xA, yA⟩ := opn_ints1 Try.underlying22 Try.underlying2 (by kernel_rfl) hy0
  obtain ⟨aB, nB, cB, bB, lB, rfl, wB, xB, yB⟩ := opn_ints1 Try.underlying22 Try.underlying2 (by kernel_rfl) hy1
  obtain ⟨aL, nL, cL, bL, fL, rfl, wL, xL, yL⟩ := opn_recs1 (kd := fun _ => .i64) Try.underlying23 Try.underlying40 (by kernel_rfl) (by kernel_rfl) (by decide) (by
    intro j f hj
    have hjl : j < 2 := by simpa using (Array.getElem?_eq_some_iff.1 hj).1
    match j, hjl, hj with
    | 0, _, hj => simp at hj; subst hj; exact Try.underlying2
    | 1, _, hj => simp at hj; subst hj; exact Try.underlying2
    ) hy2
  obtain ⟨aM, nM, cM, bM, fM, rfl, wM, xM, yM⟩ := opn_recs1 (kd := fun _ => .i64) Try.underlying23 Try.underlying40 (by kernel_rfl) (by kernel_rfl) (by decide) (by
    intro j f hj
    have hjl : j < 2 := by simpa using (Array.getElem?_eq_some_iff.1 hj).1
    match j, hjl, hj with
    | 0, _, hj => simp at hj; subst hj; exact Try.underlying2
    | 1, _, hj => simp at hj; subst hj; exact Try.underlying2
    ) hy3
  obtain ⟨a1, rfl, dd1, pp1⟩ := open_bool Try.underlying4 (hval 1 4 v1 rfl rfl) h1
  clear hA0 hval0
  refine (walk aA nA cA bA lA aB nB cB bB lB aL nL cL bL fL aM nM cM bM fM a1 W wA ⟨xA, yA⟩ wB ⟨xB, yB⟩ wL ⟨xL, yL⟩ wM ⟨xM, yM⟩).mono fun e W' ⟨he, bel⟩ => ?_
  subst he
  exact ⟨_, rfl, _, _, _, [], _, [], hW', trodAll_mk1 (shut_bool Try.underlying4 _), (trodAll_cons_mk (Below.trod laidOut (by kernel_rfl) (of_decide_eq_true (by kernel_rfl)) k0 bel lt0) (trodAll_cons_mk (Below.trod laidOut (by kernel_rfl) (of_decide_eq_true (by kernel_rfl)) k1 bel lt1) trodAll_mk0)), rfl, bel.frame _, fun h => by cases h⟩

theorem over : Rows.histoMergesRow.holds Try.pinned (OpenSpec.ofChange Rows.histoMergesSpec) :=
  OpenClaim.holds_of_wide 9 Try.f9 rfl rfl rfl rfl rfl rfl rfl ⟨rfl, rfl, rfl, rfl, rfl⟩ rfl rfl rfl rfl rfl (by kernel_rfl) Try.func9 (by kernel_rfl)
    (of_decide_eq_true (by kernel_rfl)) (by unfold Func.isWrapper; first | (rw [if_pos (by decide +kernel)]; kernel_rfl) | (rw [if_neg (by decide +kernel)]; exact ⟨rfl, rfl⟩))
    (fun os started H enc _ => lifted os started H enc)

/-- The statement. -/
theorem proved : Rows.HistoMergesSaid :=
  over
#print axioms proved
end Go.Proofs.Ytpfdoifkimjlbaa.histoMerges

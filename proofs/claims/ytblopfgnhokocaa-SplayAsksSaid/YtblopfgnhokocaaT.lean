/- THE STATEMENTS about sequences: what they have in common: same, do, played, works. -/
import Derived.Test.YtblopfgnhokocaaSo
import Derived.Test.YtblopfgnhokocaaO
import Derived.StillTailTactics
namespace Go.Proofs.Ytblopfgnhokocaa
open Go.RowKit P
set_option linter.unusedVariables false
set_option linter.unusedSimpArgs false

theorem getD_at {l : List Int} {i : Nat} (h : i < l.length) : l.getD i 0 = l[i] := by rw [List.getD_eq_getElem?_getD, List.getElem?_eq_getElem h]; rfl
theorem sameI_any {w : World} {b b' : Nat} {a a' : Option Addr} {n n' c c' : Nat} {l l' : List Int} (h : Ints w b a n c l) (h' : Ints w b' a' n' c' l') (hn : n ≤ 1000000) (hn' : n' ≤ 1000000) :
    Calls Try.prog 21 #[.slice a n c, .slice a' n' c'] w fun e w' => e = .returned (.bool (decide (l = l'))) ∧ ∃ q, w' = w.drewN q := by
  by_cases hl : n = n'
  · subst hl
    have HI := Lib.hid h
    have HJ := Lib.hid h'
    clear h h'
    go_enter Try.func21, Try.ntmps21
    go_wp2
    go_loopw [5] (fun u wr => ∃ k : Nat, u = .int .i64 k ∧ k ≤ n ∧ Hid (∀ i, i < k → l.getD i 0 = l'.getD i 0) ∧ Hid (∃ q, w.drewN q = wr)) (fun u _ => n - (intOf u).toNat)
    case atStart => exact ⟨0, rfl, Nat.zero_le _, (fun i hi => absurd hi (by omega)), ⟨0, rfl⟩⟩
    case round =>
      obtain ⟨k, rfl, hk, HU, HQ⟩ := hrel
      obtain ⟨q, hq⟩ := HQ.out
      by_cases hlt : k < n
      · obtain ⟨off, ha, hc⟩ := HI.out.2.2.2 (by omega)
        obtain ⟨off', ha', hc'⟩ := HJ.out.2.2.2 (by omega)
        have ck0 : wr.cell? ⟨b, off + k, none⟩ = some (.int .i64 (l.getD k 0)) := by rw [← hq]; exact hc k hlt
        have ck1 : wr.cell? ⟨b', off' + k, none⟩ = some (.int .i64 (l'.getD k 0)) := by rw [← hq]; exact hc' k hlt
        have i0 : (0 : Int) ≤ k := by omega
        have i1 : (k : Int) < n := by omega
        obtain ⟨x, hx⟩ : ∃ x, l.getD k 0 = x := ⟨_, rfl⟩
        obtain ⟨y, hy⟩ : ∃ y, l'.getD k 0 = y := ⟨_, rfl⟩
        rw [hx] at ck0
        rw [hy] at ck1
        have HX := Lib.hid hx
        have HY := Lib.hid hy
        have HQ' : ∀ m, Hid (∃ q, w.drewN q = wr.drewN m) := fun m => ⟨q + m, by rw [← hq, World.drewN_drewN]⟩
        have HQ' := Lib.hid HQ'
        subst ha ha'
        clear hx hy hc hc' hq HQ
        by_cases hxy : x = y
        · have HU' : Hid (∀ i, i < k + 1 → l.getD i 0 = l'.getD i 0) := by
            intro i hi
            rcases Nat.lt_or_ge i k with h | h
            · exact HU.out i h
            · obtain rfl : i = k := by omega
              rw [HX.out, HY.out]; exact hxy
          subst hxy
          clear HU HX HY
          go_wp2
          go_quiet (fail)
          go_wp2
          go_roundw
          case rel => exact ⟨k + 1, by go_num, by omega, HU', HQ'.out _⟩
          case measure => simp [intOf]; omega
        · have FIN : Hid (decide (l = l') = false) := by
            refine decide_eq_false (fun e => hxy ?_)
            rw [← HX.out, ← HY.out, e]
          have hxb : (x != y) = true := by simpa using hxy
          clear HU HX HY hxy
          go_wp2
          go_quiet (fail)
          go_wp2
          go_ret
          obtain ⟨m, hm⟩ := (HQ'.out _).out
          exact ⟨ret_bool FIN.out.symm, m, hm.symm⟩
      · obtain rfl : k = n := by omega
        have FIN : Hid (decide (l = l') = true) := by
          refine decide_eq_true (List.ext_getElem (by rw [HI.out.1, HJ.out.1]) fun i h1 h2 => ?_)
          rw [← getD_at h1, ← getD_at h2]
          exact HU.out i (by rw [← HI.out.1]; exact h1)
        have HQ2 := Lib.hid hq
        clear hlt HU hq HQ
        go_wp2
        go_ret
        exact ⟨ret_bool FIN.out.symm, q, HQ2.out.symm⟩
  · have FIN : Hid (decide (l = l') = false) := decide_eq_false (fun e => hl (by rw [← h.1, ← h'.1, e]))
    have hnn : ((n : Int) != n') = true := by simp; omega
    clear h h' hl
    go_enter Try.func21, Try.ntmps21
    go_wp2
    go_ret
    exact ⟨ret_bool FIN.out.symm, 0, rfl⟩


theorem below_drewN {B : Nat} {a w : World} (h : Below B a w) (n : Nat) : Below B a (w.drewN n) := ⟨h.os, h.tape, h.output, h.size, h.block⟩
theorem nums_inj {l m : List Nat} : nums l = nums m ↔ l = m := by
  constructor
  · intro h
    have : (nums l).map Int.toNat = (nums m).map Int.toNat := by rw [h]
    simpa [nums, Function.comp_def] using this
  · rintro rfl; rfl
/-- Two lists of nodes. -/
theorem samen_any {w : World} {b b' : Nat} {a a' : Option Addr} {n n' c c' : Nat} {l l' : List Nat} (h : Ints w b a n c (nums l)) (h' : Ints w b' a' n' c' (nums l')) (hn : l.length ≤ 65536) (hn' : l'.length ≤ 65536) :
    Calls Try.prog 21 #[.slice a n c, .slice a' n' c'] w fun e w' => e = .returned (.bool (decide (l = l'))) ∧ Below w.heap.size w w' := by
  have e1 := h.1
  have e2 := h'.1
  simp only [nums, List.length_map] at e1 e2
  refine (sameI_any h h' (by omega) (by omega)).mono fun e w' ⟨he, q, hq⟩ => ⟨?_, by rw [hq]; exact below_drewN (Below.refl _ _) q⟩
  rw [he, decide_eq_decide.2 nums_inj]
end Go.Proofs.Ytblopfgnhokocaa

/- No program: sequences cut, joined, turned. -/
import Derived.Test.YtblopfgnhokocaaS2
namespace Go.Proofs.Ytblopfgnhokocaa
open Go.RowKit P
set_option linter.unusedVariables false
set_option linter.unusedSimpArgs false

namespace P
variable {n : Nat} {L : List (List Nat)}
theorem Part.idx (h : Part n L) {x : Nat} (hx : x < n) : (P.lst L x).idxOf x < (P.lst L x).length := List.idxOf_lt_length_of_mem (h.lst hx).2
theorem drop_idx {l : List Nat} {x : Nat} (h : x ∈ l) : ∃ t, l.drop (l.idxOf x) = x :: t := by
  have hi := List.idxOf_lt_length_of_mem h
  refine ⟨l.drop (l.idxOf x + 1), ?_⟩
  rw [List.drop_eq_getElem_cons hi, List.getElem_idxOf hi]
theorem Part.split_x (h : Part n L) {x : Nat} (hx : x < n) : P.lst (splitL L x) x = (P.lst L x).drop ((P.lst L x).idxOf x) := by
  obtain ⟨t, ht⟩ := drop_idx (h.lst hx).2
  refine (h.splitted hx).uniq (x := x) ?_ (by rw [ht]; simp)
  unfold splitL
  split
  · rename_i h0
    rw [h0, List.drop_zero]; exact (h.lst hx).1
  · simp
theorem Part.split_first (h : Part n L) {x y : Nat} (hx : x < n) (hy : y ∈ (P.lst L x).take ((P.lst L x).idxOf x)) : P.lst (splitL L x) y = (P.lst L x).take ((P.lst L x).idxOf x) := by
  refine (h.splitted hx).uniq (x := y) ?_ hy
  unfold splitL
  split
  · rename_i h0
    rw [h0] at hy; simp at hy
  · simp
theorem Part.join_x (h : Part n L) {x y : Nat} (hx : x < n) (hy : y < n) (hxy : y ∉ P.lst L x) {z : Nat} (hz : z ∈ P.lst L x ++ P.lst L y) : P.lst (joinL L x y) z = P.lst L x ++ P.lst L y :=
  (h.joined hx hy hxy).uniq (by unfold joinL; simp) hz
theorem Part.rev_x (h : Part n L) {x : Nat} (hx : x < n) {z : Nat} (hz : z ∈ P.lst L x) : P.lst (revL L x) z = (P.lst L x).reverse :=
  (h.reversed hx).uniq (by unfold revL; simp) (by simpa using hz)
/-- A sequence that has not been touched. -/
theorem Part.keep {M : List (List Nat)} (h : Part n L) (k : Part n M) {z : Nat} (hz : z < n) (hm : P.lst L z ∈ M) : P.lst M z = P.lst L z := k.uniq hm (h.lst hz).2
end P
theorem nums_drop (l : List Nat) (k : Nat) : (nums l).drop k = nums (l.drop k) := by unfold nums; rw [List.map_drop]
theorem nums_take (l : List Nat) (k : Nat) : (nums l).take k = nums (l.take k) := by unfold nums; rw [List.map_take]
theorem Ints.drop {w : World} {b n c off : Nat} {l : List Int} (h : Ints w b (some ⟨b, off, none⟩) n c l) {k : Nat} (hk : k ≤ n) : Ints w b (some ⟨b, off + k, none⟩) (n - k) (c - k) (l.drop k) := by
  obtain ⟨h1, h2, h3, h4⟩ := h
  refine ⟨by rw [List.length_drop, h1], fun x hx => h2 x (List.mem_of_mem_drop hx), (fun e => by cases e), fun hn => ⟨off + k, rfl, fun j hj => ?_⟩⟩
  obtain ⟨off', e, hc⟩ := h4 (by omega)
  injection e with e; injection e with _ e
  rw [show off + k + j = off' + (k + j) by omega, hc (k + j) (by omega)]
  simp [List.getD_eq_getElem?_getD]
theorem Ints.take {w : World} {b n c off : Nat} {l : List Int} (h : Ints w b (some ⟨b, off, none⟩) n c l) {k : Nat} (hk : k ≤ n) : Ints w b (some ⟨b, off, none⟩) k c (l.take k) := by
  obtain ⟨h1, h2, h3, h4⟩ := h
  refine ⟨by rw [List.length_take]; omega, fun x hx => h2 x (List.mem_of_mem_take hx), (fun e => by cases e), fun hn => ⟨off, rfl, fun j hj => ?_⟩⟩
  obtain ⟨off', e, hc⟩ := h4 (by omega)
  injection e with e; injection e with _ e
  rw [show off + j = off' + j by omega, hc j (by omega)]
  simp [List.getD_eq_getElem?_getD, List.getElem?_take, hj]
end Go.Proofs.Ytblopfgnhokocaa

/- No program: sequences turned. -/
import Derived.Test.YtblopfgnhokocaaS4
namespace Go.Proofs.Ytblopfgnhokocaa
open Go.RowKit P
set_option linter.unusedVariables false
set_option linter.unusedSimpArgs false

theorem nums_getD (l : List Nat) (k : Nat) : (nums l).getD k 0 = ((l.getD k 0 : Nat) : Int) := by
  unfold nums
  rw [List.getD_eq_getElem?_getD, List.getD_eq_getElem?_getD, List.getElem?_map]
  cases l[k]? <;> rfl
namespace P
variable {n : Nat} {L : List (List Nat)}
theorem Part.apart (h : Part n L) {x y : Nat} (hx : x < n) (hy : y < n) (hm : y ∉ P.lst L x) : x ∉ P.lst L y := by
  intro hxm
  exact hm (by rw [h.uniq (h.lst hy).1 hxm]; exact (h.lst hy).2)
theorem Part.rev_other (h : Part n L) {x y : Nat} (hx : x < n) (hy : y < n) (hm : y ∉ P.lst L x) : P.lst (revL L x) y = P.lst L y :=
  h.keep (h.reversed hx) hy (by unfold revL; exact List.mem_append_left _ (mem_others.2 ⟨(h.lst hy).1, h.apart hx hy hm⟩))
theorem rev_idx {l : List Nat} (hn : l.Nodup) {k : Nat} (hk : k < l.length) : l.reverse.idxOf (l.getD k 0) = l.length - 1 - k := by
  have e : l.getD k 0 = l.reverse[l.length - 1 - k]'(by rw [List.length_reverse]; omega) := by
    rw [List.getD_eq_getElem?_getD, List.getElem?_eq_getElem hk, Option.getD_some, List.getElem_reverse]
    congr 1
    omega
  rw [e]
  exact ((List.reverse_perm l).nodup_iff.2 hn).idxOf_getElem _ _
theorem rev_get {l : List Nat} {k : Nat} (hk : k < l.length) : l.reverse.getD (l.length - 1 - k) 0 = l.getD k 0 := by
  rw [List.getD_eq_getElem?_getD, List.getD_eq_getElem?_getD, List.getElem?_reverse (by omega)]
  congr 2
  omega
structure Turned (n : Nat) (L : List (List Nat)) (x y : Nat) : Prop where
  m : ∀ z ∈ P.lst L x, P.lst (revL L x) z = (P.lst L x).reverse
  m2 : P.lst (revL (revL L x) ((P.lst L x).getD 0 0)) x = P.lst L x
  p2 : Part n (revL (revL L x) ((P.lst L x).getD 0 0))
theorem Part.turned (h : Part n L) {x y : Nat} (hx : x < n) : Turned n L x y := by
  have hne : P.lst L x ≠ [] := h.2 _ (h.lst hx).1
  have hl : 0 < (P.lst L x).length := List.length_pos_iff.2 hne
  have h0 := getD_lt hl
  have h0n := h.lt (h.lst hx).1 h0
  have hp := h.reversed hx
  have e0 := h.rev_x hx h0
  refine ⟨fun z hz => h.rev_x hx hz, ?_, hp.reversed h0n⟩
  rw [hp.rev_x h0n (z := x) (by rw [e0]; simpa using (h.lst hx).2), e0, List.reverse_reverse]
/-- Joined and turned, or turned and joined the other way. -/
theorem Part.both (h : Part n L) {x y : Nat} (hx : x < n) (hy : y < n) (hm : y ∉ P.lst L x) :
    P.lst (revL (joinL L x y) y) x = (P.lst L x ++ P.lst L y).reverse ∧ x ∉ P.lst (revL (revL L x) y) y ∧ P.lst (joinL (revL (revL L x) y) y x) y = (P.lst L x ++ P.lst L y).reverse := by
  have hj := h.joined hx hy hm
  have xm := (h.lst hx).2
  have ym := (h.lst hy).2
  have h1 := h.reversed hx
  have ex : P.lst (revL L x) x = (P.lst L x).reverse := h.rev_x hx xm
  have ey : P.lst (revL L x) y = P.lst L y := h.rev_other hx hy hm
  have h2 := h1.reversed hy
  have hxy : x ∉ P.lst L y := h.apart hx hy hm
  have ey2 : P.lst (revL (revL L x) y) y = (P.lst L y).reverse := by rw [h1.rev_x hy (by rw [ey]; exact ym), ey]
  have ex2 : P.lst (revL (revL L x) y) x = (P.lst L x).reverse := by rw [h1.rev_other hy hx (by rw [ey]; exact hxy), ex]
  have hm2 : x ∉ P.lst (revL (revL L x) y) y := by rw [ey2]; simpa using hxy
  refine ⟨?_, hm2, ?_⟩
  · have e1 : P.lst (joinL L x y) y = P.lst L x ++ P.lst L y := h.join_x hx hy hm (by simp [ym])
    rw [hj.rev_x hy (z := x) (by rw [e1]; simp [xm]), e1]
  · rw [h2.join_x hy hx hm2 (z := y) (by rw [ey2]; simp [ym]), ex2, ey2, List.reverse_append]
theorem Part.same_other (h : Part n L) {x y : Nat} (hx : x < n) (hy : y < n) (hm : y ∉ P.lst L x) : P.lst (revL (revL L x) ((P.lst L x).getD 0 0)) y = P.lst L y := by
  have hne : P.lst L x ≠ [] := h.2 _ (h.lst hx).1
  have hl : 0 < (P.lst L x).length := List.length_pos_iff.2 hne
  have h0 := getD_lt hl
  have h0n := h.lt (h.lst hx).1 h0
  have e1 := h.rev_other hx hy hm
  have e0 := h.rev_x hx h0
  rw [(h.reversed hx).rev_other h0n hy (by rw [e0]; simpa using hm), e1]
end P
end Go.Proofs.Ytblopfgnhokocaa

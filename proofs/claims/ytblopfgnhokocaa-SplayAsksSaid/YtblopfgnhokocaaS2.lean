/- THE STATEMENTS about sequences: forty nodes: what is asked of them. -/
import Derived.Test.YtblopfgnhokocaaW
namespace Go.Proofs.Ytblopfgnhokocaa
open Go.RowKit P
set_option linter.unusedVariables false
set_option linter.unusedSimpArgs false

theorem PSo.part {w : World} {lo hi : Nat} {v : Value} {L : List (List Nat)} {V : List Int} (h : PSo w lo hi v (some (L, V))) : Part V.length L := by
  obtain ⟨p, rfl, g, n, cap, T, h1, h2, hc, hi⟩ := h
  rw [hi.len]; exact hi.fok.part
theorem PSo.rng {w : World} {lo hi : Nat} {v : Value} {L : List (List Nat)} {V : List Int} (h : PSo w lo hi v (some (L, V))) : ∀ z ∈ V, In64 z := by
  obtain ⟨p, rfl, g, n, cap, T, h1, h2, hc, hi⟩ := h
  exact hi.rng
section
variable {w : World} {lo hi : Nat} {v : Value} {L : List (List Nat)} {V : List Int}
theorem nodeB_nat {x : Nat} (hx : x < V.length) : nodeB V (x : Int) = true := nodeB_yes (by omega) (by omega)
theorem list40 (h : PSo w lo hi v (some (L, V))) (x : Nat) (hx : x < V.length) : Calls Try.prog 14 #[v, .int .i64 x] w (GivesL w lo hi v (some (L, V)) (lst L x)) := by
  have := list_so h x
  simpa only [listR, nodeB_nat hx, if_true, Int.toNat_natCast] using this
theorem len40 (h : PSo w lo hi v (some (L, V))) (x : Nat) (hx : x < V.length) : Calls Try.prog 15 #[v, .int .i64 x] w (Sp w lo hi v (some (L, V)) (.int .i64 ((lst L x).length : Nat))) := by
  have := len_so h x
  simpa only [lenR, nodeB_nat hx, if_true, Int.toNat_natCast] using this
theorem pos40 (h : PSo w lo hi v (some (L, V))) (x : Nat) (hx : x < V.length) : Calls Try.prog 17 #[v, .int .i64 x] w (Sp w lo hi v (some (L, V)) (.int .i64 ((lst L x).idxOf x : Nat))) := by
  have := pos_so h x
  simpa only [posR, nodeB_nat hx, if_true, Int.toNat_natCast] using this
theorem value40 (h : PSo w lo hi v (some (L, V))) (x : Nat) (hx : x < V.length) : Calls Try.prog 30 #[v, .int .i64 x] w (Sp w lo hi v (some (L, V)) (.int .i64 (V.getD x 0))) := by
  have := value_so h x
  simpa only [valueR, nodeB_nat hx, if_true, Int.toNat_natCast] using this
theorem min40 (h : PSo w lo hi v (some (L, V))) (x : Nat) (hx : x < V.length) : Calls Try.prog 32 #[v, .int .i64 x] w (Sp w lo hi v (some (L, V)) (.tuple #[.int .i64 (minN V (lst L x) : Nat), .bool true])) := by
  have := min_so h x
  simpa only [minR, minB, nodeB_nat hx, if_true, Int.toNat_natCast] using this
theorem sum40 (h : PSo w lo hi v (some (L, V))) (x : Nat) (hx : x < V.length) : Calls Try.prog 25 #[v, .int .i64 x] w (Sp w lo hi v (some (L, V)) (.tuple #[.int .i64 (sumV (sumN V (lst L x))), .int .i64 (sumE (sumN V (lst L x)))])) := by
  have := sum_so h x
  simpa only [sumRV, sumRE, nodeB_nat hx, if_true, Int.toNat_natCast] using this
theorem same40 (h : PSo w lo hi v (some (L, V))) (x y : Nat) (hx : x < V.length) (hy : y < V.length) : Calls Try.prog 18 #[v, .int .i64 x, .int .i64 y] w (Sp w lo hi v (some (L, V)) (.bool (decide (y ∈ lst L x)))) := by
  have := same_so h x y
  simpa only [sameR, sameB, nodeB_nat hx, nodeB_nat hy, Bool.true_and, Int.toNat_natCast] using this
theorem at40 (h : PSo w lo hi v (some (L, V))) (x : Nat) (k : Int) (hk : In64 k) (hx : x < V.length) : Calls Try.prog 16 #[v, .int .i64 x, .int .i64 k] w (Sp w lo hi v (some (L, V)) (.tuple #[.int .i64 (if 0 ≤ k ∧ k < (lst L x).length then ((lst L x).getD k.toNat 0 : Nat) else 0), .bool (decide (0 ≤ k ∧ k < (lst L x).length))])) := by
  have := at_so h x k hk
  simpa only [atRV, atRB, atV, atB, nodeB_nat hx, Bool.true_and, Int.toNat_natCast, decide_eq_true_eq] using this
theorem split40 (h : PSo w lo hi v (some (L, V))) (x : Nat) (hx : x < V.length) : Calls Try.prog 20 #[v, .int .i64 x] w (Sp w lo hi v (some (splitL L x, V)) (.int .i64 0)) := by
  have := split_so h x
  simpa only [setE, splitS, nodeB_nat hx, if_true, Int.toNat_natCast] using this
theorem reverse40 (h : PSo w lo hi v (some (L, V))) (x : Nat) (hx : x < V.length) : Calls Try.prog 26 #[v, .int .i64 x] w (Sp w lo hi v (some (revL L x, V)) (.int .i64 0)) := by
  have := reverse_so h x
  simpa only [setE, revS, nodeB_nat hx, if_true, Int.toNat_natCast] using this
theorem set40 (h : PSo w lo hi v (some (L, V))) (x : Nat) (z : Int) (hz : In64 z) (hx : x < V.length) : Calls Try.prog 24 #[v, .int .i64 x, .int .i64 z] w (Sp w lo hi v (some (L, V.set x z)) (.int .i64 0)) := by
  have := set_so h x z hz
  simpa only [setE, setS, nodeB_nat hx, if_true, Int.toNat_natCast] using this
/-- Two sequences joined. -/
theorem join40 (h : PSo w lo hi v (some (L, V))) (x y : Nat) (hx : x < V.length) (hy : y < V.length) (hm : y ∉ lst L x) : Calls Try.prog 22 #[v, .int .i64 x, .int .i64 y] w (Sp w lo hi v (some (joinL L x y, V)) (.int .i64 0)) := by
  have := join_so h x y
  have e : joinE L V x y = 0 := by unfold joinE; simp [nodeB_nat hx, nodeB_nat hy, hm]
  simpa only [joinSE, joinSS, joinS, e, if_true, Int.toNat_natCast] using this
/-- One sequence: nothing is joined. -/
theorem have40 (h : PSo w lo hi v (some (L, V))) (x y : Nat) (hx : x < V.length) (hy : y < V.length) (hm : y ∈ lst L x) : Calls Try.prog 22 #[v, .int .i64 x, .int .i64 y] w (Sp w lo hi v (some (L, V)) (.int .i64 6)) := by
  have := join_so h x y
  have e : joinE L V x y = 6 := by unfold joinE; simp [nodeB_nat hx, nodeB_nat hy, hm]
  simpa only [joinSE, joinSS, joinS, e, show ¬ ((6 : Int) = 0) by decide, if_false, Int.toNat_natCast] using this
end

namespace P
variable {n : Nat} {L : List (List Nat)}
theorem getD_lt {l : List Nat} {k : Nat} (h : k < l.length) : l.getD k 0 ∈ l := by
  rw [List.getD_eq_getElem?_getD, List.getElem?_eq_getElem h]; exact List.getElem_mem h
/-- A node at a position of the sequence of x. -/
theorem Part.node (h : Part n L) {x k : Nat} (hx : x < n) (hk : k < (P.lst L x).length) : (P.lst L x).getD k 0 < n ∧ P.lst L ((P.lst L x).getD k 0) = P.lst L x ∧ (P.lst L x).idxOf ((P.lst L x).getD k 0) = k := by
  have hl := (h.lst hx).1
  have hm := getD_lt hk
  refine ⟨h.lt hl hm, h.uniq hl hm, ?_⟩
  rw [List.getD_eq_getElem?_getD, List.getElem?_eq_getElem hk]
  exact (h.lnodup hl).idxOf_getElem k hk
theorem Part.count (h : Part n L) {x : Nat} (hx : x < n) : (P.lst L x).count x = 1 := by
  have := (h.lnodup (h.lst hx).1).count (a := x)
  rw [if_pos (h.lst hx).2] at this; exact this
/-- The nodes that are counted by their sequences' first nodes. -/
def firstN (L : List (List Nat)) (x : Nat) : Nat := if (lst L x).idxOf x = 0 then (lst L x).length else 0
theorem first_sum {l : List Nat} (hl : l ≠ []) (hn : l.Nodup) : (l.map fun x => if l.idxOf x = 0 then l.length else 0).sum = l.length := by
  obtain ⟨a, t, rfl⟩ := List.exists_cons_of_ne_nil hl
  have : ∀ x ∈ t, (if (a :: t).idxOf x = 0 then (a :: t).length else 0) = 0 := by
    intro x hx
    refine if_neg (fun e => ?_)
    have hne : a ≠ x := fun e => (List.nodup_cons.1 hn).1 (e ▸ hx)
    rw [List.idxOf_cons, show (a == x) = false by simpa using hne] at e
    exact absurd e (by simp)
  rw [List.map_cons, List.sum_cons, List.idxOf_cons_self, if_pos rfl]
  have e0 : (t.map fun x => if (a :: t).idxOf x = 0 then (a :: t).length else 0).sum = 0 := by
    rw [List.map_congr_left (g := fun _ => 0) this]
    clear this hn hl
    induction t with
    | nil => rfl
    | cons b t ih => rw [List.map_cons, List.sum_cons, ih]
  omega
theorem Part.firsts (h : Part n L) : ((List.range n).map (firstN L)).sum = n := by
  have hp := (h.1.map (firstN L)).sum_nat
  rw [← hp]
  have e : ∀ M : List (List Nat), (∀ l ∈ M, l ∈ L) → (M.flatten.map (firstN L)).sum = M.flatten.length := by
    intro M
    induction M with
    | nil => intro _; rfl
    | cons l M ih =>
      intro hM
      have hl := hM l (by simp)
      rw [List.flatten_cons, List.map_append, List.sum_append, List.length_append, ih (fun m hm => hM m (by simp [hm]))]
      congr 1
      rw [← first_sum (h.2 l hl) (h.lnodup hl)]
      refine congrArg List.sum (List.map_congr_left fun x hx => ?_)
      unfold firstN
      rw [h.uniq hl hx]
  rw [e L (fun _ h => h), h.1.length_eq, List.length_range]
theorem range_step (f : Nat → Nat) (k : Nat) : ((List.range (k + 1)).map f).sum = ((List.range k).map f).sum + f k := by
  rw [List.range_succ, List.map_append, List.sum_append]; simp
end P
end Go.Proofs.Ytblopfgnhokocaa

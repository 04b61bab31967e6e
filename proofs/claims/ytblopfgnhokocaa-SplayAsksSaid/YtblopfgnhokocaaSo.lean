/- THE CONTRACTS of package splay, of any sequences and any numbers. -/
import Derived.Test.YtblopfgnhokocaaLs
namespace Go.Proofs.Ytblopfgnhokocaa
open Go.RowKit P
set_option linter.unusedVariables false
set_option linter.unusedSimpArgs false

def setE : SSt → Int → Int
  | none, _ => 1
  | some (_, V), x => if nodeB V x then 0 else 3
def setS : SSt → Int → Int → SSt
  | none, _, _ => none
  | some (L, V), x, z => if nodeB V x then some (L, V.set x.toNat z) else some (L, V)
def splitS : SSt → Int → SSt
  | none, _ => none
  | some (L, V), x => if nodeB V x then some (splitL L x.toNat, V) else some (L, V)
def revS : SSt → Int → SSt
  | none, _ => none
  | some (L, V), x => if nodeB V x then some (revL L x.toNat, V) else some (L, V)
def joinSE : SSt → Int → Int → Int
  | none, _, _ => 1
  | some (L, V), x, y => joinE L V x y
def joinSS : SSt → Int → Int → SSt
  | none, _, _ => none
  | some (L, V), x, y => some (joinS L V x y, V)
def valueR : SSt → Int → Int
  | none, _ => 0
  | some (_, V), x => if nodeB V x then V.getD x.toNat 0 else 0
def listR : SSt → Int → List Nat
  | none, _ => []
  | some (L, V), x => if nodeB V x then lst L x.toNat else []
def posR : SSt → Int → Int
  | none, _ => 0
  | some (L, V), x => if nodeB V x then ((lst L x.toNat).idxOf x.toNat : Nat) else 0
def lenR : SSt → Int → Int
  | none, _ => 0
  | some (L, V), x => if nodeB V x then ((lst L x.toNat).length : Nat) else 0
def minR : SSt → Int → Int
  | none, _ => 0
  | some (L, V), x => if nodeB V x then (minN V (lst L x.toNat) : Nat) else 0
def minB : SSt → Int → Bool
  | none, _ => false
  | some (_, V), x => nodeB V x
def sumRV : SSt → Int → Int
  | none, _ => 0
  | some (L, V), x => if nodeB V x then sumV (sumN V (lst L x.toNat)) else 0
def sumRE : SSt → Int → Int
  | none, _ => 1
  | some (L, V), x => if nodeB V x then sumE (sumN V (lst L x.toNat)) else 3
def sameR : SSt → Int → Int → Bool
  | none, _, _ => false
  | some (L, V), x, y => sameB L V x y
def atRV : SSt → Int → Int → Int
  | none, _, _ => 0
  | some (L, V), x, k => atV L V x k
def atRB : SSt → Int → Int → Bool
  | none, _, _ => false
  | some (L, V), x, k => atB L V x k

theorem set_so {w : World} {lo hi : Nat} {v : Value} {o : SSt} (h : PSo w lo hi v o) (x z : Int) (hz : In64 z) : Calls Try.prog 24 #[v, .int .i64 x, .int .i64 z] w (Sp w lo hi v (setS o x z) (.int .i64 (setE o x))) := by
  rcases o with _ | ⟨L, V⟩
  · exact set_none h x z
  · obtain ⟨p, rfl, hp⟩ := h
    by_cases hx : 0 ≤ x ∧ x < V.length
    · have := set_ok hp x z hz hx.1 hx.2
      simpa only [setE, setS, nodeB_yes hx.1 hx.2, if_true] using this
    · have := set_bad hp x z hx
      simpa only [setE, setS, nodeB_no hx, Bool.false_eq_true, if_false] using this
theorem split_so {w : World} {lo hi : Nat} {v : Value} {o : SSt} (h : PSo w lo hi v o) (x : Int) : Calls Try.prog 20 #[v, .int .i64 x] w (Sp w lo hi v (splitS o x) (.int .i64 (setE o x))) := by
  rcases o with _ | ⟨L, V⟩
  · exact split_none h x
  · obtain ⟨p, rfl, hp⟩ := h
    by_cases hx : 0 ≤ x ∧ x < V.length
    · have := split_ok hp x hx.1 hx.2
      simpa only [setE, splitS, nodeB_yes hx.1 hx.2, if_true] using this
    · have := split_bad hp x hx
      simpa only [setE, splitS, nodeB_no hx, Bool.false_eq_true, if_false] using this
theorem reverse_so {w : World} {lo hi : Nat} {v : Value} {o : SSt} (h : PSo w lo hi v o) (x : Int) : Calls Try.prog 26 #[v, .int .i64 x] w (Sp w lo hi v (revS o x) (.int .i64 (setE o x))) := by
  rcases o with _ | ⟨L, V⟩
  · exact reverse_none h x
  · obtain ⟨p, rfl, hp⟩ := h
    by_cases hx : 0 ≤ x ∧ x < V.length
    · have := reverse_ok hp x hx.1 hx.2
      simpa only [setE, revS, nodeB_yes hx.1 hx.2, if_true] using this
    · have := reverse_bad hp x hx
      simpa only [setE, revS, nodeB_no hx, Bool.false_eq_true, if_false] using this
theorem value_so {w : World} {lo hi : Nat} {v : Value} {o : SSt} (h : PSo w lo hi v o) (x : Int) : Calls Try.prog 30 #[v, .int .i64 x] w (Sp w lo hi v (o) (.int .i64 (valueR o x))) := by
  rcases o with _ | ⟨L, V⟩
  · exact value_none h x
  · obtain ⟨p, rfl, hp⟩ := h
    by_cases hx : 0 ≤ x ∧ x < V.length
    · have := value_ok hp x hx.1 hx.2
      simpa only [valueR, nodeB_yes hx.1 hx.2, if_true] using this
    · have := value_bad hp x hx
      simpa only [valueR, nodeB_no hx, Bool.false_eq_true, if_false] using this
theorem pos_so {w : World} {lo hi : Nat} {v : Value} {o : SSt} (h : PSo w lo hi v o) (x : Int) : Calls Try.prog 17 #[v, .int .i64 x] w (Sp w lo hi v (o) (.int .i64 (posR o x))) := by
  rcases o with _ | ⟨L, V⟩
  · exact pos_none h x
  · obtain ⟨p, rfl, hp⟩ := h
    by_cases hx : 0 ≤ x ∧ x < V.length
    · have := pos_ok hp x hx.1 hx.2
      simpa only [posR, nodeB_yes hx.1 hx.2, if_true] using this
    · have := pos_bad hp x hx
      simpa only [posR, nodeB_no hx, Bool.false_eq_true, if_false] using this
theorem len_so {w : World} {lo hi : Nat} {v : Value} {o : SSt} (h : PSo w lo hi v o) (x : Int) : Calls Try.prog 15 #[v, .int .i64 x] w (Sp w lo hi v (o) (.int .i64 (lenR o x))) := by
  rcases o with _ | ⟨L, V⟩
  · exact len_none h x
  · obtain ⟨p, rfl, hp⟩ := h
    by_cases hx : 0 ≤ x ∧ x < V.length
    · have := len_ok hp x hx.1 hx.2
      simpa only [lenR, nodeB_yes hx.1 hx.2, if_true] using this
    · have := len_bad hp x hx
      simpa only [lenR, nodeB_no hx, Bool.false_eq_true, if_false] using this
theorem min_so {w : World} {lo hi : Nat} {v : Value} {o : SSt} (h : PSo w lo hi v o) (x : Int) : Calls Try.prog 32 #[v, .int .i64 x] w (Sp w lo hi v (o) (.tuple #[.int .i64 (minR o x), .bool (minB o x)])) := by
  rcases o with _ | ⟨L, V⟩
  · exact min_none h x
  · obtain ⟨p, rfl, hp⟩ := h
    by_cases hx : 0 ≤ x ∧ x < V.length
    · have := min_ok hp x hx.1 hx.2
      simpa only [minR, minB, nodeB_yes hx.1 hx.2, if_true] using this
    · have := min_bad hp x hx
      simpa only [minR, minB, nodeB_no hx, Bool.false_eq_true, if_false] using this
theorem sum_so {w : World} {lo hi : Nat} {v : Value} {o : SSt} (h : PSo w lo hi v o) (x : Int) : Calls Try.prog 25 #[v, .int .i64 x] w (Sp w lo hi v (o) (.tuple #[.int .i64 (sumRV o x), .int .i64 (sumRE o x)])) := by
  rcases o with _ | ⟨L, V⟩
  · exact sum_none h x
  · obtain ⟨p, rfl, hp⟩ := h
    by_cases hx : 0 ≤ x ∧ x < V.length
    · have := sum_ok hp x hx.1 hx.2
      simpa only [sumRV, sumRE, nodeB_yes hx.1 hx.2, if_true] using this
    · have := sum_bad hp x hx
      simpa only [sumRV, sumRE, nodeB_no hx, Bool.false_eq_true, if_false] using this
theorem same_so {w : World} {lo hi : Nat} {v : Value} {o : SSt} (h : PSo w lo hi v o) (x y : Int) : Calls Try.prog 18 #[v, .int .i64 x, .int .i64 y] w (Sp w lo hi v (o) (.bool (sameR o x y))) := by
  rcases o with _ | ⟨L, V⟩
  · exact same_none h x y
  · obtain ⟨p, rfl, hp⟩ := h
    exact same_any hp x y
theorem at_so {w : World} {lo hi : Nat} {v : Value} {o : SSt} (h : PSo w lo hi v o) (x k : Int) (hk : In64 k) : Calls Try.prog 16 #[v, .int .i64 x, .int .i64 k] w (Sp w lo hi v (o) (.tuple #[.int .i64 (atRV o x k), .bool (atRB o x k)])) := by
  rcases o with _ | ⟨L, V⟩
  · exact at_none h x k
  · obtain ⟨p, rfl, hp⟩ := h
    exact at_any hp x k hk
theorem join_so {w : World} {lo hi : Nat} {v : Value} {o : SSt} (h : PSo w lo hi v o) (x y : Int) : Calls Try.prog 22 #[v, .int .i64 x, .int .i64 y] w (Sp w lo hi v (joinSS o x y) (.int .i64 (joinSE o x y))) := by
  rcases o with _ | ⟨L, V⟩
  · exact join_none h x y
  · obtain ⟨p, rfl, hp⟩ := h
    exact join_any hp x y
theorem Sp.toL {w w' : World} {lo hi : Nat} {v : Value} {o : SSt} {e : Ending} (h : Sp w lo hi v o (.slice none 0 0) e w') : GivesL w lo hi v o [] e w' :=
  ⟨0, none, 0, 0, h.1, Ints.nil _ _ _ _ (fun _ => rfl), fun h => absurd h (by omega), h.2.1, h.2.2⟩
theorem list_so {w : World} {lo hi : Nat} {v : Value} {o : SSt} (h : PSo w lo hi v o) (x : Int) : Calls Try.prog 14 #[v, .int .i64 x] w (GivesL w lo hi v o (listR o x)) := by
  rcases o with _ | ⟨L, V⟩
  · exact (list_none h x).mono fun e w' k => k.toL
  · obtain ⟨p, rfl, hp⟩ := h
    by_cases hx : 0 ≤ x ∧ x < V.length
    · have := list_ok hp x hx.1 hx.2
      simpa only [listR, nodeB_yes hx.1 hx.2, if_true] using this
    · have := (list_bad hp x hx).mono fun e w' k => k.toL
      simpa only [listR, nodeB_no hx, Bool.false_eq_true, if_false] using this
theorem copy_so {w : World} {lo hi : Nat} {v : Value} {o : SSt} (h : PSo w lo hi v o) : Calls Try.prog 27 #[v] w (Gives w o id) := by
  rcases o with _ | ⟨L, V⟩
  · exact copy_none h
  · obtain ⟨p, rfl, hp⟩ := h
    exact copy_ok hp
end Go.Proofs.Ytblopfgnhokocaa

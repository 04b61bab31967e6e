/- PLAIN: sequences as lists of lists of nodes, and what is asked of them. No program in sight. -/
import Derived.Test.YtblopfgnhokocaaP4
set_option linter.unusedVariables false
set_option linter.unusedSimpArgs false
namespace Go.Proofs.Ytblopfgnhokocaa.P

/-- n nodes, each in one list. -/
def Part (n : Nat) (L : List (List Nat)) : Prop := L.flatten.Perm (List.range n) ∧ ∀ l ∈ L, l ≠ []
theorem FOK.part {T : Tb} {n : Nat} {L : List (List Nat)} (h : FOK T n L) : Part n L := ⟨h.2.1, fun l hl => (h.1 l hl).1⟩
def lst (L : List (List Nat)) (x : Nat) : List Nat := (L.find? fun l => decide (x ∈ l)).getD []
def others (L : List (List Nat)) (x : Nat) : List (List Nat) := L.filter fun l => !decide (x ∈ l)

theorem flat_disj : ∀ {L : List (List Nat)}, L.flatten.Nodup → ∀ {l m : List Nat} {x : Nat}, l ∈ L → m ∈ L → x ∈ l → x ∈ m → l = m := by
  intro L
  induction L with
  | nil => intro _ l m x hl; simp at hl
  | cons a L ih =>
    intro nd l m x hl hm hxl hxm
    rw [List.flatten_cons, List.nodup_append] at nd
    rcases List.mem_cons.1 hl with h1 | h1 <;> rcases List.mem_cons.1 hm with h2 | h2
    · rw [h1, h2]
    · exact absurd rfl (nd.2.2 x (h1 ▸ hxl) x (List.mem_flatten.2 ⟨m, h2, hxm⟩))
    · exact absurd rfl (nd.2.2 x (h2 ▸ hxm) x (List.mem_flatten.2 ⟨l, h1, hxl⟩))
    · exact ih nd.2.1 h1 h2 hxl hxm
section
variable {n : Nat} {L : List (List Nat)}
theorem Part.nodup (h : Part n L) : L.flatten.Nodup := h.1.symm.nodup_iff.1 List.nodup_range
theorem Part.lst (h : Part n L) {x : Nat} (hx : x < n) : lst L x ∈ L ∧ x ∈ lst L x := by
  have hm : x ∈ L.flatten := h.1.mem_iff.2 (by simpa using hx)
  obtain ⟨l, hl, hxl⟩ := List.mem_flatten.1 hm
  unfold P.lst
  cases e : L.find? (fun l => decide (x ∈ l)) with
  | none =>
    have := List.find?_eq_none.1 e l hl
    simp [hxl] at this
  | some m =>
    have h1 := List.mem_of_find?_eq_some e
    have h2 := List.find?_some e
    exact ⟨h1, by simpa using h2⟩
theorem Part.uniq (h : Part n L) {l : List Nat} {x : Nat} (hl : l ∈ L) (hx : x ∈ l) : P.lst L x = l := by
  have hxn : x < n := by have := h.1.mem_iff.1 (List.mem_flatten.2 ⟨l, hl, hx⟩); simpa using this
  obtain ⟨h1, h2⟩ := h.lst hxn
  exact flat_disj h.nodup h1 hl h2 hx
theorem Part.lt (h : Part n L) {l : List Nat} {x : Nat} (hl : l ∈ L) (hx : x ∈ l) : x < n := by
  have := h.1.mem_iff.1 (List.mem_flatten.2 ⟨l, hl, hx⟩); simpa using this
theorem Part.perm {L' : List (List Nat)} (h : Part n L) (p : L.Perm L') : Part n L' := ⟨p.symm.flatten.trans h.1, fun l hl => h.2 l (p.mem_iff.2 hl)⟩
theorem Part.lnodup (h : Part n L) {l : List Nat} (hl : l ∈ L) : l.Nodup := by
  exact h.nodup.sublist (List.sublist_flatten_of_mem hl)
theorem perm_others : ∀ {L : List (List Nat)} {l : List Nat} {x : Nat}, L.flatten.Nodup → l ∈ L → x ∈ l → L.Perm (l :: others L x) := by
  intro L
  induction L with
  | nil => intro l x _ hl; simp at hl
  | cons a L ih =>
    intro l x nd hl hx
    have nd' := nd
    rw [List.flatten_cons, List.nodup_append] at nd'
    by_cases e : x ∈ a
    · have : l = a := flat_disj nd hl (by simp) hx e
      subst this
      have h2 : others (l :: L) x = L := by
        unfold others
        rw [List.filter_cons_of_neg (by simp [e])]
        refine List.filter_eq_self.2 (fun m hm => ?_)
        have : x ∉ m := fun hxm => nd'.2.2 x hx x (List.mem_flatten.2 ⟨m, hm, hxm⟩) rfl
        simpa using this
      rw [h2]
    · have hl' : l ∈ L := by
        rcases List.mem_cons.1 hl with rfl | h
        · exact absurd hx e
        · exact h
      have h2 : others (a :: L) x = a :: others L x := by
        unfold others
        rw [List.filter_cons_of_pos (by simp [e])]
      rw [h2]
      exact ((ih nd'.2.1 hl' hx).cons a).trans (List.Perm.swap l a _)
theorem Part.others (h : Part n L) {x : Nat} (hx : x < n) : L.Perm (P.lst L x :: others L x) :=
  perm_others h.nodup (h.lst hx).1 (h.lst hx).2
theorem mem_others {x : Nat} {l : List Nat} : l ∈ others L x ↔ l ∈ L ∧ x ∉ l := by
  unfold others; simp

/-! ### the state, and the operations -/
def joinL (L : List (List Nat)) (x y : Nat) : List (List Nat) := others (others L x) y ++ [lst L x ++ lst L y]
def splitL (L : List (List Nat)) (x : Nat) : List (List Nat) :=
  if (lst L x).idxOf x = 0 then L else others L x ++ [(lst L x).take ((lst L x).idxOf x), (lst L x).drop ((lst L x).idxOf x)]
def revL (L : List (List Nat)) (x : Nat) : List (List Nat) := others L x ++ [(lst L x).reverse]

theorem Part.join (h : Part n L) {x y : Nat} (hx : x < n) (hy : y < n) (hxy : y ∉ P.lst L x) : L.Perm ([P.lst L x, P.lst L y] ++ P.others (P.others L x) y) := by
  refine (h.others hx).trans ?_
  refine List.Perm.cons _ ?_
  have hm : P.lst L y ∈ P.others L x := mem_others.2 ⟨(h.lst hy).1, fun hxm => hxy (by rw [h.uniq (h.lst hy).1 hxm]; exact (h.lst hy).2)⟩
  refine perm_others ?_ hm (h.lst hy).2
  have := (h.perm (h.others hx)).nodup
  rw [List.flatten_cons, List.nodup_append] at this
  exact this.2.1
theorem Part.joined (h : Part n L) {x y : Nat} (hx : x < n) (hy : y < n) (hxy : y ∉ P.lst L x) : Part n (joinL L x y) := by
  have p := h.join hx hy hxy
  have h' := h.perm p
  refine ⟨?_, fun l hl => ?_⟩
  · unfold joinL
    rw [List.flatten_append]
    refine List.perm_append_comm.trans ?_
    have := h'.1
    simpa using this
  · unfold joinL at hl
    rcases List.mem_append.1 hl with hl | hl
    · exact h'.2 l (List.mem_append_right _ hl)
    · have : l = P.lst L x ++ P.lst L y := by simpa using hl
      rw [this]
      intro e
      exact h.2 _ (h.lst hx).1 (List.append_eq_nil_iff.1 e).1
theorem Part.splitted (h : Part n L) {x : Nat} (hx : x < n) : Part n (splitL L x) := by
  unfold splitL
  split
  · exact h
  · rename_i hk
    have p := h.others hx
    have h' := h.perm p
    have hi : (P.lst L x).idxOf x < (P.lst L x).length := List.idxOf_lt_length_of_mem (h.lst hx).2
    refine ⟨?_, fun l hl => ?_⟩
    · rw [List.flatten_append]
      refine List.perm_append_comm.trans ?_
      have := h'.1
      simpa using this
    · rcases List.mem_append.1 hl with hl | hl
      · exact h'.2 l (List.mem_cons_of_mem _ hl)
      · rcases List.mem_cons.1 hl with rfl | hl
        · intro e; have := congrArg List.length e; rw [List.length_take, List.length_nil] at this; omega
        · have : l = (P.lst L x).drop ((P.lst L x).idxOf x) := by simpa using hl
          rw [this]
          intro e; have := congrArg List.length e; simp at this; omega
theorem Part.reversed (h : Part n L) {x : Nat} (hx : x < n) : Part n (revL L x) := by
  have h' := h.perm (h.others hx)
  refine ⟨?_, fun l hl => ?_⟩
  · unfold revL
    rw [List.flatten_append]
    refine List.perm_append_comm.trans ?_
    have := h'.1
    rw [List.flatten_cons] at this
    refine List.Perm.trans ?_ this
    simp only [List.flatten_cons, List.flatten_nil, List.append_nil]
    exact (List.reverse_perm _).append_right _
  · unfold revL at hl
    rcases List.mem_append.1 hl with hl | hl
    · exact h'.2 l (List.mem_cons_of_mem _ hl)
    · have : l = (P.lst L x).reverse := by simpa using hl
      rw [this]
      intro e
      exact h.2 _ (h.lst hx).1 (by simpa using e)
end

/-! ### the least node of a list, and its sum -/
def bestN (V : List Int) (a b : Nat) : Nat := if V.getD b 0 < V.getD a 0 ∨ (V.getD b 0 = V.getD a 0 ∧ b < a) then b else a
def minN (V : List Int) (l : List Nat) : Nat := l.tail.foldl (bestN V) (l.headD 0)
def LeastN (V : List Int) (m : Nat) (l : List Nat) : Prop := m ∈ l ∧ ∀ y ∈ l, V.getD m 0 < V.getD y 0 ∨ (V.getD m 0 = V.getD y 0 ∧ m ≤ y)
theorem least_uniq {V : List Int} {l : List Nat} {a b : Nat} (h : LeastN V a l) (k : LeastN V b l) : a = b := by
  have := h.2 b k.1
  have := k.2 a h.1
  omega
theorem least_perm {V : List Int} {l m : List Nat} {a : Nat} (h : LeastN V a l) (p : l.Perm m) : LeastN V a m := ⟨p.mem_iff.1 h.1, fun y hy => h.2 y (p.mem_iff.2 hy)⟩
theorem fold_least {V : List Int} : ∀ (l : List Nat) (a : Nat) (s : List Nat), LeastN V a s → LeastN V (l.foldl (bestN V) a) (s ++ l) := by
  intro l
  induction l with
  | nil => intro a s h; simpa using h
  | cons b l ih =>
    intro a s h
    have : LeastN V (bestN V a b) (s ++ [b]) := by
      unfold bestN
      split
      · rename_i hc
        refine ⟨by simp, fun y hy => ?_⟩
        rcases List.mem_append.1 hy with hy | hy
        · have := h.2 y hy; omega
        · have : y = b := by simpa using hy
          subst this; omega
      · rename_i hc
        refine ⟨List.mem_append_left _ h.1, fun y hy => ?_⟩
        rcases List.mem_append.1 hy with hy | hy
        · exact h.2 y hy
        · have : y = b := by simpa using hy
          subst this; omega
    have := ih _ _ this
    rw [List.append_assoc] at this
    exact this
theorem minN_least {V : List Int} {l : List Nat} (h : l ≠ []) : LeastN V (minN V l) l := by
  cases l with
  | nil => exact absurd rfl h
  | cons a l =>
    have := fold_least (V := V) l a [a] ⟨by simp, fun y hy => by have : y = a := by simpa using hy
                                                                 subst this; omega⟩
    exact this
def sumN (V : List Int) (l : List Nat) : Int := (l.map fun x => V.getD x 0).sum
theorem sumN_perm {V : List Int} {l m : List Nat} (p : l.Perm m) : sumN V l = sumN V m := int_sum_perm (p.map _)
end Go.Proofs.Ytblopfgnhokocaa.P

/- No program: nodes joined one after the other, round. -/
import Derived.Test.YtblopfgnhokocaaLt
namespace Go.Proofs.Ytblopfgnhokocaa
open Go.RowKit P
set_option linter.unusedVariables false
set_option linter.unusedSimpArgs false

theorem sum_in {s : Int} (h : In64 s) : sumV s = s ∧ sumE s = 0 := ⟨if_pos h, if_pos h⟩
theorem sum_out {s : Int} (h : ¬ In64 s) : sumV s = 0 ∧ sumE s = 7 := ⟨if_neg h, if_neg h⟩
namespace P
theorem modw {N t i : Nat} (h : i < N) : (i + t) % N = if i + t % N < N then i + t % N else i + t % N - N := by
  have ht : t % N < N := Nat.mod_lt _ (by omega)
  rw [Nat.add_mod, Nat.mod_eq_of_lt h]
  split
  · rename_i h2; exact Nat.mod_eq_of_lt h2
  · rw [Nat.mod_eq_sub_mod (by omega), Nat.mod_eq_of_lt (by omega)]
theorem mod_inj {N t i j : Nat} (hi : i < N) (hj : j < N) (h : (i + t) % N = (j + t) % N) : i = j := by
  have ht : t % N < N := Nat.mod_lt _ (by omega)
  rw [modw hi, modw hj] at h
  split at h <;> split at h <;> omega
def chain (N t k : Nat) : List Nat := (List.range k).map fun j => (j + t) % N
theorem chain_succ (N t k : Nat) : chain N t (k + 1) = chain N t k ++ [(k + t) % N] := by unfold chain; rw [List.range_succ, List.map_append]; rfl
structure Ch (N t k : Nat) (L : List (List Nat)) : Prop where
  part : Part N L
  run : P.lst L ((k - 1 + t) % N) = chain N t k
  rest : ∀ j, k ≤ j → j < N → P.lst L ((j + t) % N) = [(j + t) % N]
theorem new_part (n : Nat) : Part n (newL n) := by
  refine ⟨by rw [newL_flat], fun l hl => ?_⟩
  obtain ⟨i, -, rfl⟩ := List.mem_map.1 hl
  simp
theorem new_lst {n x : Nat} (hx : x < n) : P.lst (newL n) x = [x] := (new_part n).uniq (List.mem_map.2 ⟨x, by simpa using hx, rfl⟩) (by simp)
theorem Ch.new {N t : Nat} (hN : 1 ≤ N) : Ch N t 1 (newL N) := by
  refine ⟨new_part N, ?_, fun j _ _ => new_lst (Nat.mod_lt _ (by omega))⟩
  rw [new_lst (Nat.mod_lt _ (by omega))]
  rfl
theorem Ch.step {N t k : Nat} {L : List (List Nat)} (h : Ch N t k L) (h1 : 1 ≤ k) (hk : k < N) : (k - 1 + t) % N < N ∧ (k + t) % N < N ∧ (k + t) % N ∉ P.lst L ((k - 1 + t) % N) ∧ Ch N t (k + 1) (joinL L ((k - 1 + t) % N) ((k + t) % N)) := by
  have ha : (k - 1 + t) % N < N := Nat.mod_lt _ (by omega)
  have hb : (k + t) % N < N := Nat.mod_lt _ (by omega)
  have hm : (k + t) % N ∉ P.lst L ((k - 1 + t) % N) := by
    rw [h.run]
    intro hm
    obtain ⟨j, hj, e⟩ := List.mem_map.1 hm
    have hj' : j < k := by simpa using hj
    have := mod_inj (t := t) (show j < N by omega) hk e
    omega
  have hp := h.part.joined ha hb hm
  refine ⟨ha, hb, hm, hp, ?_, fun j hj hjN => ?_⟩
  · rw [Nat.add_sub_cancel, h.part.join_x ha hb hm (z := (k + t) % N) (by simp [h.rest k (Nat.le_refl _) hk]), h.run, h.rest k (Nat.le_refl _) hk, chain_succ]
  · have hz : (j + t) % N < N := Nat.mod_lt _ (by omega)
    have e := h.rest j (by omega) hjN
    rw [h.part.keep hp hz ?_, e]
    unfold joinL
    refine List.mem_append_left _ (mem_others.2 ⟨mem_others.2 ⟨(h.part.lst hz).1, ?_⟩, ?_⟩)
    · rw [e]; intro hm'
      have := mod_inj (t := t) (show k - 1 < N by omega) hjN (by simpa using hm')
      omega
    · rw [e]; intro hm'
      have := mod_inj (t := t) hk hjN (by simpa using hm')
      omega
theorem Part.full {n : Nat} {L : List (List Nat)} (h : Part n L) {x : Nat} (hx : x < n) (hl : (P.lst L x).length = n) : (P.lst L x).Perm (List.range n) := by
  have hp := (h.others hx).flatten.symm.trans h.1
  have hlen := hp.length_eq
  rw [List.flatten_cons, List.length_append, hl, List.length_range] at hlen
  have : (P.others L x).flatten = [] := List.length_eq_zero_iff.1 (by omega)
  rwa [List.flatten_cons, this, List.append_nil] at hp
theorem Ch.full {N t : Nat} {L : List (List Nat)} (h : Ch N t N L) (hN : 1 ≤ N) {x : Nat} (hx : x < N) : (P.lst L x).Perm (List.range N) := by
  have hz : (N - 1 + t) % N < N := Nat.mod_lt _ (by omega)
  have hf := h.part.full hz (by rw [h.run]; simp [chain])
  have hm : x ∈ P.lst L ((N - 1 + t) % N) := hf.mem_iff.2 (by simpa using hx)
  rw [h.part.uniq (h.part.lst hz).1 hm]
  exact hf
theorem sum_set {V : List Int} {i : Nat} (z : Int) (hi : i < V.length) : ∀ N, i < N → sumN (V.set i z) (List.range N) = sumN V (List.range N) - V.getD i 0 + z := by
  have e1 : (V.set i z).getD i 0 = z := by simp [List.getD_eq_getElem?_getD, hi]
  have e2 : ∀ j, j ≠ i → (V.set i z).getD j 0 = V.getD j 0 := fun j hj => by simp [List.getD_eq_getElem?_getD, List.getElem?_set, Ne.symm hj]
  have e3 : ∀ N, N ≤ i → sumN (V.set i z) (List.range N) = sumN V (List.range N) := by
    intro N hN
    unfold sumN
    refine congrArg List.sum (List.map_congr_left fun j hj => e2 j ?_)
    have : j < N := by simpa using hj
    omega
  have e4 : ∀ (W : List Int) N, sumN W (List.range (N + 1)) = sumN W (List.range N) + W.getD N 0 := by
    intro W N; unfold sumN; rw [List.range_succ, List.map_append, List.sum_append]; simp
  intro N
  induction N with
  | zero => intro h; omega
  | succ N ih =>
    intro h
    rw [e4, e4]
    by_cases hN : i < N
    · rw [ih hN, e2 N (by omega)]; omega
    · obtain rfl : i = N := by omega
      rw [e3 i (Nat.le_refl _), e1]; omega
/-- The values after the first k rounds. -/
structure Vs (n k : Nat) (V : List Int) : Prop where
  len : V.length = 2 * n + 2
  sum : sumN V (List.range (2 * n + 2)) = -(k : Int)
  zero : ∀ i, (k ≤ i ∧ i < n) ∨ n + k ≤ i → V.getD i 0 = 0
theorem getD_set_ne {V : List Int} {i j : Nat} (z : Int) (h : j ≠ i) : (V.set i z).getD j 0 = V.getD j 0 := by simp [List.getD_eq_getElem?_getD, List.getElem?_set, Ne.symm h]
theorem Vs.new (n : Nat) : Vs n 0 (List.replicate (2 * n + 2) 0) := by
  have hz : ∀ i, (List.replicate (2 * n + 2) (0 : Int)).getD i 0 = 0 := fun i => by
    rw [List.getD_eq_getElem?_getD, List.getElem?_replicate]; split <;> rfl
  refine ⟨by simp, ?_, fun i _ => hz i⟩
  unfold sumN
  rw [List.map_congr_left (g := fun _ => (0 : Int)) (fun j _ => hz j)]
  have : ∀ l : List Nat, (l.map fun _ => (0 : Int)).sum = 0 := by
    intro l; induction l with
    | nil => rfl
    | cons a l ih => rw [List.map_cons, List.sum_cons, ih]; rfl
  rw [this]; rfl
theorem Vs.step {n k : Nat} {V : List Int} (h : Vs n k V) (hk : k < n) : Vs n (k + 1) ((V.set k 9223372036854775807).set (n + k) (-9223372036854775808)) := by
  have l1 := h.len
  refine ⟨by simpa using l1, ?_, fun i hi => ?_⟩
  · rw [sum_set _ (by simp; omega) _ (by omega), sum_set _ (by omega) _ (by omega), getD_set_ne _ (by omega), h.sum, h.zero k (.inl ⟨Nat.le_refl _, hk⟩), h.zero (n + k) (.inr (Nat.le_refl _))]
    omega
  · rw [getD_set_ne _ (by omega), getD_set_ne _ (by omega)]
    exact h.zero i (by omega)
theorem Vs.last {n : Nat} {V : List Int} (h : Vs n n V) (v z : Int) : (V.set (2 * n) v).length = 2 * n + 2 ∧ sumN (V.set (2 * n) v) (List.range (2 * n + 2)) = v - n ∧ sumN ((V.set (2 * n) v).set (2 * n + 1) z) (List.range (2 * n + 2)) = v - n + z := by
  have l1 := h.len
  have s1 : sumN (V.set (2 * n) v) (List.range (2 * n + 2)) = v - n := by
    rw [sum_set _ (by omega) _ (by omega), h.sum, h.zero (2 * n) (.inr (by omega))]; omega
  refine ⟨by simpa using l1, s1, ?_⟩
  rw [sum_set _ (by simp; omega) _ (by omega), s1, getD_set_ne _ (by omega), h.zero (2 * n + 1) (.inr (by omega))]
  omega
end P
end Go.Proofs.Ytblopfgnhokocaa

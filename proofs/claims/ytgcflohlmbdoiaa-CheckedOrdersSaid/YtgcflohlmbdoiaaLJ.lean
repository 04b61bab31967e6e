/- Slices of numbers that come in, nil and empty ones too: appended to a row of the call's own, and summed. -/
import Derived.Test.YtgcflohlmbdoiaaLI
namespace Go.Proofs.Ytgcflohlmbdoiaa
open Go.RowKit M
set_option linter.unusedVariables false
set_option linter.unusedSimpArgs false

/-- What a walk is told of a slice of numbers: its elements, and where they lie. -/
def Src (w : World) (a : Option Addr) (n c : Nat) (l : List Int) : Prop :=
  l.length = n ∧ n ≤ maxLen ∧ (∀ x ∈ l, -9223372036854775808 ≤ x ∧ x ≤ 9223372036854775807) ∧
    ((a = none ∧ n = 0 ∧ c = 0) ∨ ∃ x, a = some x ∧ ∀ (j : Nat) (u : Value), (l.map (Value.int .i64))[j]? = some u → w.cell? (x.add j) = some u)

theorem src_nil (w : World) : ∃ l, Src w none 0 0 l := ⟨[], rfl, Nat.zero_le _, by simp, .inl ⟨rfl, rfl, rfl⟩⟩

theorem src_row {w : World} {x : Addr} {n c : Nat} {zs : List Int} (hl : n ≤ c) (hm : c ≤ maxLen) (hz : zs.length = c)
    (hcell : ∀ i, i < zs.length → w.cell? (x.add i) = some (.int .i64 (zs.getD i 0))) (hwz : ∀ m ∈ zs, (Lit.int .i64 m).wf = true) : ∃ l, Src w (some x) n c l := by
  refine ⟨zs.take n, by simp; omega, by omega, fun y hy => bi64 (hwz y (List.mem_of_mem_take hy)), .inr ⟨x, rfl, fun j u hu => ?_⟩⟩
  simp only [List.getElem?_map, Option.map_eq_some_iff] at hu
  obtain ⟨y, hy, rfl⟩ := hu
  obtain ⟨hj, -⟩ := List.getElem?_eq_some_iff.1 hy
  rw [List.length_take] at hj
  rw [List.getElem?_take, if_pos (by omega)] at hy
  rw [hcell j (by omega), List.getD_eq_getElem?_getD, hy]
  rfl

theorem src_below {w w1 : World} {a : Option Addr} {n c : Nat} {l : List Int} (h : Src w a n c l) (hb : Below w.heap.size w w1) : Src w1 a n c l := by
  obtain ⟨h1, h2, h3, h4⟩ := h
  refine ⟨h1, h2, h3, ?_⟩
  rcases h4 with h4 | ⟨x, rfl, h4⟩
  · exact .inl h4
  · exact .inr ⟨x, rfl, fun j u hu => ck_below hb (h4 j u hu)⟩

theorem append_src {w : World} {ops : Array Oper} {rest : List Oper} {o : Oper} {a : Act} {Q : Exit → Act → World → Prop} (hgd : o.guard = none) (s x : Operand)
    (ho : o.op = .call { callee := .builtin .append, args := #[s, x], argTypes := #[22, 22] })
    (base n : Nat) (v : Value) (xs : List Int) (hs : a.eval s = v) (hown : w.ownsRow base 2 1 v n (xs.map (Value.int .i64)))
    (sa : Option Addr) (m c : Nat) (l : List Int) (hx : a.eval x = .slice sa m c) (hsrc : Src w sa m c l) (hn : n + m ≤ 1000000) (hbase : base ≤ w.heap.size)
    (h : ∀ v' w', w'.ownsRow base 2 1 v' (n + m) ((xs ++ l).map (Value.int .i64)) → Hid (Below base w w') → wpList Try.prog ops Q rest (a.put o.dst v') w') : wpList Try.prog ops Q (o :: rest) a w := by
  obtain ⟨i0, hi, hz0, hz1, hz2⟩ := info_parts info2
  obtain ⟨h1, h2, h3, h4⟩ := hsrc
  rcases h4 with ⟨rfl, rfl, rfl⟩ | ⟨y, rfl, h4⟩
  · obtain rfl : l = [] := List.length_eq_zero_iff.1 h1
    refine wpList_append_own_none hgd s x 22 ho base 2 i0 1 Try.underlying22 hi v n _ hs hown hx (h v w (by simpa using hown) (Below.refl _ _))
  · refine wpList_append_own _ hgd s x 22 ho base 2 i0 (.int .i64 0) 1 8 Try.underlying22 hi hz0 hz1 hz2 rfl (by decide) v n _ hs hown y m c (l.map (Value.int .i64)) hx (by simp [h1]) h4 ints_one (by unfold maxLen; omega) (by omega) hbase ?_
    intro v' w' hown' hgrow _
    refine h v' w' (by simpa using hown') ?_
    exact Below.grown (Below.refl _ _) hgrow hbase (fun k hk => (hown.lt k hk).1)

theorem sum_src {w : World} {a : Option Addr} {n c : Nat} {l : List Int} (h : Src w a n c l) (hn : n ≤ 17592186044416) :
    Calls Try.prog 13 #[.slice a n c] w fun e w' => e = .returned (.tuple #[.int .i64 (vo l.sum), .int .i64 (eo l.sum)]) ∧ w = w' := by
  obtain ⟨rfl, h2, h3, h4⟩ := h
  by_cases h0 : l.length = 0
  · obtain rfl : l = [] := List.length_eq_zero_iff.1 h0
    exact sum_none a c w
  · rcases h4 with ⟨rfl, h4, rfl⟩ | ⟨y, rfl, h4⟩
    · omega
    · obtain ⟨b, off, rfl, hc⟩ := ints_at (w := w) (a := y) (k := .i64) (zs := l) (fun i hi => h4 i _ (by simp [List.getD_eq_getElem?_getD, List.getElem?_eq_getElem hi])) (by omega)
      exact sum_cells l b off c w hn h3 hc

theorem sum_own {w : World} {base : Nat} {v : Value} {n : Nat} {l : List Int} (h : w.ownsRow base 2 1 v n (l.map (Value.int .i64))) (hb : ∀ x ∈ l, -9223372036854775808 ≤ x ∧ x ≤ 9223372036854775807) (hn : n ≤ 17592186044416) :
    Calls Try.prog 13 #[v] w fun e w' => e = .returned (.tuple #[.int .i64 (vo l.sum), .int .i64 (eo l.sum)]) ∧ w = w' := by
  by_cases h0 : n = 0
  · subst h0
    have h1 := h.1
    obtain rfl : l = [] := by simpa using h1
    obtain ⟨a, cap, rfl⟩ := own_none h
    exact sum_none a cap w
  · obtain ⟨rfl, g, cap, rfl, -, -, hc⟩ := own_ints h (by omega)
    exact sum_cells l g 0 cap w hn hb hc
end Go.Proofs.Ytgcflohlmbdoiaa

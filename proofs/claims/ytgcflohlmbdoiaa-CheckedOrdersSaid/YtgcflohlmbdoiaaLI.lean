/- Slices of numbers that come in, and copies of them: small laws. No program is walked. -/
import Derived.Test.YtgcflohlmbdoiaaLW
import Derived.OpenShut
import Derived.Laws.AppendOwn
import Derived.Laws.AppendOwnNone
import Derived.Laws.OwnMore
import Derived.OwnWalk
namespace Go.Proofs.Ytgcflohlmbdoiaa
open Go.RowKit M
set_option linter.unusedVariables false
set_option linter.unusedSimpArgs false

/-- What a walk is told of a slice of numbers: its elements, and where they lie if there are any. -/
def IsInts (w : World) (a : Option Addr) (n : Nat) (l : List Int) : Prop :=
  l.length = n ∧ n ≤ maxLen ∧ (∀ x ∈ l, -9223372036854775808 ≤ x ∧ x ≤ 9223372036854775807) ∧
    (n = 0 ∨ ∃ b off, a = some ⟨b, off, none⟩ ∧ ∀ k, k < l.length → w.cell? ⟨b, off + k, none⟩ = some (.int .i64 (l.getD k 0)))

theorem bi64 {a : Int} (h : (Lit.int .i64 a).wf = true) : -9223372036854775808 ≤ a ∧ a ≤ 9223372036854775807 := by
  simp [Lit.wf, IntKind.min, IntKind.max, IntKind.signed, IntKind.bits] at h
  omega

theorem isInts_nil (w : World) (a : Option Addr) : ∃ l, IsInts w a 0 l := ⟨[], rfl, Nat.zero_le _, by simp, .inl rfl⟩

theorem isInts_row {w : World} {x : Addr} {n c : Nat} {zs : List Int} (hl : n ≤ c) (hm : c ≤ maxLen) (hz : zs.length = c)
    (hcell : ∀ i, i < zs.length → w.cell? (x.add i) = some (.int .i64 (zs.getD i 0))) (hwz : ∀ m ∈ zs, (Lit.int .i64 m).wf = true) : ∃ l, IsInts w (some x) n l := by
  refine ⟨zs.take n, by simp; omega, by omega, fun y hy => bi64 (hwz y (List.mem_of_mem_take hy)), ?_⟩
  by_cases h0 : n = 0
  · exact .inl h0
  · obtain ⟨b, off, rfl, hc⟩ := ints_at hcell (by omega)
    refine .inr ⟨b, off, rfl, fun k hk => ?_⟩
    have hk2 : k < n ∧ k < zs.length := by rw [List.length_take] at hk; omega
    rw [hc k hk2.2]
    simp only [List.getD_eq_getElem?_getD, List.getElem?_take, if_pos hk2.1]

theorem info2 : (Try.prog.info? 2).map (fun i => (i.zero, i.size, i.bytes)) = some (some (.int .i64 0), 1, 8) := by kernel_rfl

/-- A row of the call's own that holds numbers: where it lies. -/
theorem own_ints {w : World} {base : Nat} {v : Value} {n : Nat} {l : List Int} (h : w.ownsRow base 2 1 v n (l.map (Value.int .i64))) (hn : 0 < n) :
    l.length = n ∧ ∃ g cap, v = .slice (some ⟨g, 0, none⟩) n cap ∧ base ≤ g ∧ g < w.heap.size ∧ ∀ k, k < l.length → w.cell? ⟨g, 0 + k, none⟩ = some (.int .i64 (l.getD k 0)) := by
  have h1 := h.1
  simp at h1
  have hh := h
  rcases h.2 with ⟨rfl, h0⟩ | ⟨g, cap, cur, rfl, hb, -⟩
  · omega
  · have hc : ∀ k, k < l.length → w.cell? ⟨g, 0 + k, none⟩ = some (.int .i64 (l.getD k 0)) := by
      intro k hk
      rw [Nat.zero_add, hh.cellAt k (by omega)]
      simp [List.getD_eq_getElem?_getD, List.getElem?_eq_getElem hk]
    exact ⟨h1, g, cap, rfl, hb, World.block_lt_of_cell? w _ (hc 0 (by omega)), hc⟩
theorem own_none {w : World} {base : Nat} {v : Value} {xs : List Value} (h : w.ownsRow base 2 1 v 0 xs) : ∃ a cap, v = .slice a 0 cap := by
  rcases h.2 with ⟨rfl, h0⟩ | ⟨g, cap, cur, rfl, hb, -⟩
  · exact ⟨none, 0, rfl⟩
  · exact ⟨_, cap, rfl⟩
theorem list_cells {w : World} {b off : Nat} {l : List Int} (h : ∀ k, k < l.length → w.cell? ⟨b, off + k, none⟩ = some (.int .i64 (l.getD k 0))) :
    ∀ (j : Nat) (u : Value), (l.map (Value.int .i64))[j]? = some u → w.cell? (Addr.add ⟨b, off, none⟩ j) = some u := by
  intro j u hu
  simp only [List.getElem?_map, Option.map_eq_some_iff] at hu
  obtain ⟨x, hx, rfl⟩ := hu
  obtain ⟨hj, he⟩ := List.getElem?_eq_some_iff.1 hx
  rw [Go.WideShapes.add_plain, h j hj, List.getD_eq_getElem?_getD, hx]
  rfl
theorem ints_one {l : List Int} : ∀ u ∈ l.map (Value.int .i64), u.oneCell' = true := by
  intro u hu
  obtain ⟨x, _, rfl⟩ := List.mem_map.1 hu
  rfl
end Go.Proofs.Ytgcflohlmbdoiaa

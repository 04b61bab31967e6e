/- No program in sight: words for memory: a block known whole; what a call may have turned; a slice of numbers. -/
import Derived.Below
import Derived.WalkKit
import Derived.WalkSmall
import Derived.OwnWalk
import Derived.OpenShut
import Derived.Laws.AppendOwn
import Derived.Laws.AppendOwnNone
import Derived.Laws.OwnMore
import Derived.Laws.Rows
import Derived.Lib.Hide
import Derived.KernelRfl
namespace Go.Proofs.Ytblopfgnhokocaa
open Go.RowKit
set_option linter.unusedVariables false
set_option linter.unusedSimpArgs false

/-! ### what a call may have turned: the blocks from lo to hi, and what is new -/
structure Mod (lo hi : Nat) (w w' : World) : Prop where
  os : w'.os = w.os
  tape : w'.tape = w.tape
  output : w'.output = w.output
  size : w.heap.size ≤ w'.heap.size
  block : ∀ k, k < w.heap.size → k < lo ∨ hi ≤ k → w'.heap[k]? = w.heap[k]?

theorem Mod.refl (lo hi : Nat) (w : World) : Mod lo hi w w := ⟨rfl, rfl, rfl, Nat.le_refl _, fun _ _ _ => rfl⟩
theorem Mod.trans {lo hi : Nat} {a b c : World} (h : Mod lo hi a b) (k : Mod lo hi b c) : Mod lo hi a c :=
  ⟨k.os.trans h.os, k.tape.trans h.tape, k.output.trans h.output, Nat.le_trans h.size k.size, fun i hi ho => (k.block i (Nat.lt_of_lt_of_le hi h.size) ho).trans (h.block i hi ho)⟩
theorem Mod.mono {lo hi lo' hi' : Nat} {a b : World} (h : Mod lo hi a b) (h1 : lo' ≤ lo) (h2 : hi ≤ hi') : Mod lo' hi' a b :=
  ⟨h.os, h.tape, h.output, h.size, fun i hi ho => h.block i hi (by omega)⟩
theorem Mod.of_below {lo hi : Nat} {w w' : World} (h : Below w.heap.size w w') : Mod lo hi w w' := ⟨h.os, h.tape, h.output, h.size, fun i hi _ => h.block i hi⟩
theorem Mod.below {B lo hi : Nat} {a b c : World} (h : Below B a b) (k : Mod lo hi b c) (h1 : B ≤ lo) (h2 : B ≤ b.heap.size) : Below B a c :=
  h.trans ⟨k.os, k.tape, k.output, k.size, fun i hi => k.block i (by omega) (by omega)⟩
theorem Mod.hb {B lo hi : Nat} {a b c : World} (h : Hid (Below B a b)) (k : Mod lo hi b c) (h1 : B ≤ lo) (h2 : B ≤ b.heap.size) : Hid (Below B a c) := Mod.below h k h1 h2
theorem Mod.to_below {lo hi : Nat} {w w' : World} (h : Mod lo hi w w') (h1 : w.heap.size ≤ lo) : Below w.heap.size w w' := ⟨h.os, h.tape, h.output, h.size, fun i hi => h.block i hi (by omega)⟩
theorem Mod.set {lo hi : Nat} {a w : World} (h : Mod lo hi a w) {p : Addr} (hp : (lo ≤ p.block ∧ p.block < hi) ∨ a.heap.size ≤ p.block) (u : Value) : Mod lo hi a (w.setCell p u) :=
  ⟨h.os, h.tape, h.output, by simpa [World.setCell] using h.size, fun i hi ho => (Below.heap_setCell w p u i (by omega)).trans (h.block i hi ho)⟩
theorem Mod.alloc {lo hi : Nat} {a w : World} (h : Mod lo hi a w) (o : Obj) : Mod lo hi a (w.alloc o) :=
  ⟨h.os, h.tape, h.output, Nat.le_trans h.size (by simp), fun i hi ho => (Below.heap_alloc w o i (Nat.lt_of_lt_of_le hi h.size)).trans (h.block i hi ho)⟩
theorem Mod.drewN {lo hi : Nat} {a w : World} (h : Mod lo hi a w) (n : Nat) : Mod lo hi a (w.drewN n) := ⟨h.os, h.tape, h.output, h.size, h.block⟩
theorem Mod.drew {lo hi : Nat} {a w : World} (h : Mod lo hi a w) : Mod lo hi a w.drew := ⟨h.os, h.tape, h.output, h.size, h.block⟩

/-! ### small laws on 'Below' -/
theorem ckb {w w1 : World} {p : Addr} {v : Value} (hb : Below w.heap.size w w1) (h : w.cell? p = some v) : w1.cell? p = some v := by
  rw [hb.cell (World.block_lt_of_cell? w p h)]; exact h
theorem hb_refl' (B : Nat) (w : World) : Hid (Below B w w) := Below.refl B w
theorem hb_alloc' {B : Nat} {a w : World} (h : Hid (Below B a w)) (hB : B ≤ w.heap.size) (o : Obj) : Hid (Below B a (w.alloc o)) := Below.alloc h hB o
theorem hb_trans' {B : Nat} {a w w' : World} (h : Hid (Below B a w)) (k : Below w.heap.size w w') (hB : B ≤ w.heap.size) : Hid (Below B a w') := Below.trans h (k.mono hB)
theorem hb_drewN' {B : Nat} {a w : World} (h : Hid (Below B a w)) (n : Nat) : Hid (Below B a (w.drewN n)) := ⟨h.os, h.tape, h.output, h.size, h.block⟩

/-! ### a block known whole -/
def Bk (w : World) (g : Nat) (t : TypeId) (cs : List Value) : Prop := w.heap[g]? = some (.cells cs.toArray t (0, 0))

section
variable {w w' : World} {g : Nat} {t : TypeId} {cs : List Value}
theorem Bk.lt (h : Bk w g t cs) : g < w.heap.size := by
  unfold Bk at h
  exact (Array.getElem?_eq_some_iff.1 h).1
theorem Bk.cell (h : Bk w g t cs) (i : Nat) : w.cell? ⟨g, i, none⟩ = cs[i]? := by
  have := cell_of_row w g i cs.toArray t (0, 0) h
  simpa using this
theorem Bk.frozen (h : Bk w g t cs) (i : Nat) : w.frozen? ⟨g, i, none⟩ = false := by
  unfold Bk at h
  simp [World.frozen?, h]
theorem Bk.new (w : World) (t : TypeId) (cs : List Value) : Bk (w.alloc (.cells cs.toArray t)) w.heap.size t cs := by
  show (w.heap.push _)[w.heap.size]? = _
  simp
theorem Bk.drewN (h : Bk w g t cs) (n : Nat) : Bk (w.drewN n) g t cs := h
theorem Bk.drew (h : Bk w g t cs) : Bk w.drew g t cs := h
theorem Bk.alloc (h : Bk w g t cs) (o : Obj) : Bk (w.alloc o) g t cs := (Below.heap_alloc w o g h.lt).trans h
theorem Bk.set (h : Bk w g t cs) (i : Nat) (u : Value) : Bk (w.setCell ⟨g, i, none⟩ u) g t (cs.set i u) := by
  unfold Bk at h ⊢
  simp [World.setCell, Array.getElem?_modify, h]
theorem Bk.far (h : Bk w g t cs) {p : Addr} (hp : g ≠ p.block) (u : Value) : Bk (w.setCell p u) g t cs := (Below.heap_setCell w p u g hp).trans h
theorem Bk.below (h : Bk w g t cs) (hb : Below w.heap.size w w') : Bk w' g t cs := (hb.block g h.lt).trans h
theorem Bk.below' {B : Nat} (h : Bk w g t cs) (hb : Below B w w') (hg : g < B) : Bk w' g t cs := (hb.block g hg).trans h
theorem Bk.mod {lo hi : Nat} (h : Bk w g t cs) (hb : Mod lo hi w w') (ho : g < lo ∨ hi ≤ g) : Bk w' g t cs := (hb.block g h.lt ho).trans h
theorem Bk.ne {g' : Nat} {t' : TypeId} {cs' : List Value} (h : Bk w g t cs) (h' : Bk w g' t' cs') (hne : t ≠ t') : g ≠ g' := by
  rintro rfl
  unfold Bk at h h'
  rw [h] at h'
  injection h' with h'
  injection h' with _ ht
  exact hne ht
theorem Bk.new' (h : g = w.heap.size) : Bk (w.alloc (.cells cs.toArray t)) g t cs := by subst h; exact Bk.new _ _ _
end

/-! ### a slice of numbers -/
def In64 (x : Int) : Prop := -9223372036854775808 ≤ x ∧ x ≤ 9223372036854775807
/-- The slice a, of n elements, holds the numbers l, in block b if there are any. -/
def Ints (w : World) (b : Nat) (a : Option Addr) (n c : Nat) (l : List Int) : Prop :=
  l.length = n ∧ (∀ x ∈ l, In64 x) ∧ (a = none → c = 0) ∧ (0 < n → ∃ off, a = some ⟨b, off, none⟩ ∧ ∀ k, k < n → w.cell? ⟨b, off + k, none⟩ = some (.int .i64 (l.getD k 0)))

section
variable {w w' : World} {b n c : Nat} {a : Option Addr} {l : List Int}
theorem Ints.nil (w : World) (b : Nat) (a : Option Addr) (c : Nat) (h : a = none → c = 0) : Ints w b a 0 c [] := ⟨rfl, by simp, h, fun h => absurd h (by omega)⟩
theorem Ints.lt (h : Ints w b a n c l) (hn : 0 < n) : b < w.heap.size := by
  obtain ⟨off, -, hc⟩ := h.2.2.2 hn
  exact World.block_lt_of_cell? w _ (hc 0 hn)
theorem Ints.mod {lo hi : Nat} (h : Ints w b a n c l) (hm : Mod lo hi w w') (ho : 0 < n → b < lo ∨ hi ≤ b) : Ints w' b a n c l := by
  refine ⟨h.1, h.2.1, h.2.2.1, fun hn => ?_⟩
  have hl := h.lt hn
  obtain ⟨off, e, hc⟩ := h.2.2.2 hn
  exact ⟨off, e, fun k hk => (World.cell?_of_block (w := w) (hm.block b hl (ho hn))).trans (hc k hk)⟩
theorem Ints.below (h : Ints w b a n c l) (hb : Below w.heap.size w w') : Ints w' b a n c l :=
  h.mod (Mod.of_below (lo := 0) (hi := 0) hb) (fun _ => .inr (Nat.zero_le _))
theorem Ints.range (h : Ints w b a n c l) {k : Nat} (hk : k < n) : In64 (l.getD k 0) := by
  have := h.1
  rw [List.getD_eq_getElem?_getD, List.getElem?_eq_getElem (by omega)]
  exact h.2.1 _ (by simp)
theorem Ints.far (h : Ints w b a n c l) {p : Addr} (hp : 0 < n → b ≠ p.block) (u : Value) : Ints (w.setCell p u) b a n c l :=
  h.mod (lo := p.block) (hi := p.block + 1) (Mod.set (Mod.refl _ _ _) (.inl ⟨Nat.le_refl _, Nat.lt_succ_self _⟩) _) (fun hn => by have := hp hn; omega)
/-- A block known whole, as a slice from its head. -/
theorem Ints.of_bk {t : TypeId} {ex : List Value} {c : Nat} (h : Bk w b t (l.map (Value.int .i64) ++ ex)) (hr : ∀ x ∈ l, In64 x) : Ints w b (some ⟨b, 0, none⟩) l.length c l := by
  refine ⟨rfl, hr, (fun h => by cases h), fun _ => ⟨0, rfl, fun k hk => ?_⟩⟩
  rw [Nat.zero_add, h.cell, List.getElem?_append_left (by simpa using hk)]
  simp [List.getD_eq_getElem?_getD, List.getElem?_eq_getElem hk]
end
/-- A slice of numbers that has its block for itself. -/
def Row (w : World) (t : TypeId) (b : Nat) (a : Option Addr) (n c : Nat) (l : List Int) : Prop :=
  Ints w b a n c l ∧ (0 < n → a = some ⟨b, 0, none⟩ ∧ ∃ ex, c = n + ex.length ∧ Bk w b t (l.map (Value.int .i64) ++ ex))
section
variable {w w' : World} {b n c : Nat} {t : TypeId} {a : Option Addr} {l : List Int}
theorem Row.lt (h : Row w t b a n c l) (hn : 0 < n) : b < w.heap.size := h.1.lt hn
theorem Row.mod {lo hi : Nat} (h : Row w t b a n c l) (hm : Mod lo hi w w') (ho : 0 < n → b < lo ∨ hi ≤ b) : Row w' t b a n c l :=
  ⟨h.1.mod hm ho, fun hn => by obtain ⟨e, ex, hc, hb⟩ := h.2 hn; exact ⟨e, ex, hc, hb.mod hm (ho hn)⟩⟩
theorem Row.below (h : Row w t b a n c l) (hb : Below w.heap.size w w') : Row w' t b a n c l :=
  h.mod (Mod.of_below (lo := 0) (hi := 0) hb) (fun _ => .inr (Nat.zero_le _))
theorem Row.far (h : Row w t b a n c l) {p : Addr} (hp : 0 < n → b ≠ p.block) (u : Value) : Row (w.setCell p u) t b a n c l :=
  h.mod (lo := p.block) (hi := p.block + 1) (Mod.set (Mod.refl _ _ _) (.inl ⟨Nat.le_refl _, Nat.lt_succ_self _⟩) _) (fun hn => by have := hp hn; omega)
end
theorem getD_in64 {l : List Int} (h : ∀ x ∈ l, In64 x) (k : Nat) : In64 (l.getD k 0) := by
  rw [List.getD_eq_getElem?_getD]
  rcases Nat.lt_or_ge k l.length with hk | hk
  · rw [List.getElem?_eq_getElem hk]; exact h _ (by simp)
  · rw [List.getElem?_eq_none hk]; exact ⟨by decide, by decide⟩
theorem ret_int' {k : IntKind} {a b : Int} (h : a = b) : Ending.returned (.int k a) = .returned (.int k b) := by rw [h]
theorem ret_bool {a b : Bool} (h : a = b) : Ending.returned (.bool a) = .returned (.bool b) := by rw [h]
/-- A row of the call's own, as a slice of numbers. -/
theorem Ints.of_own {w : World} {base e : Nat} {v : Value} {n : Nat} {l : List Int} (h : w.ownsRow base e 1 v n (l.map (Value.int .i64))) (hr : ∀ x ∈ l, In64 x) :
    ∃ b a c, v = .slice a n c ∧ Ints w b a n c l ∧ (0 < n → base ≤ b ∧ a = some ⟨b, 0, none⟩ ∧ ∃ ex, c = n + ex.length ∧ Bk w b e (l.map (Value.int .i64) ++ ex)) := by
  have h1 : l.length = n := by have := h.1; simpa using this
  have hh := h
  rcases h.2 with ⟨rfl, h0⟩ | ⟨g, cap, cur, rfl, hb, hg, hnc, -, hsz, hcur⟩
  · have h2 : n = 0 := by simpa using h0
    subst h2
    obtain rfl : l = [] := List.length_eq_zero_iff.1 h1
    exact ⟨0, none, 0, rfl, Ints.nil _ _ _ _ (fun _ => rfl), fun h => absurd h (by omega)⟩
  · refine ⟨g, some ⟨g, 0, none⟩, cap, rfl, ⟨h1, hr, (fun h => by cases h), fun _ => ⟨0, rfl, fun k hk => ?_⟩⟩, fun _ => ⟨hb, rfl, cur.toList.drop n, by simp [hsz]; omega, ?_⟩⟩
    · rw [Nat.zero_add, hh.cellAt k (by omega)]
      simp [List.getD_eq_getElem?_getD, List.getElem?_eq_getElem (show k < l.length by omega)]
    · show w.heap[g]? = _
      rw [Nat.mul_one] at hcur
      rw [← hcur, List.take_append_drop]
      exact hg
end Go.Proofs.Ytblopfgnhokocaa

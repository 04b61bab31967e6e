/- package checked's Compare: which of two fractions is the greater one. -/
import Derived.Test.YtpfdoifkimjlbaaC4
import Derived.Deep.RegionHeld3
import Derived.Deep.DeepCutAuto
import Derived.StillTailTactics
namespace Go.Proofs.Ytpfdoifkimjlbaa
open Go.RowKit M
set_option linter.unusedVariables false
set_option linter.unusedSimpArgs false

theorem ck_alloc {w : World} {p : Addr} {v : Value} (h : w.cell? p = some v) (o : Obj) : (w.alloc o).cell? p = some v := (World.cell?_alloc_some w p o (by rw [h]; rfl)).trans h
theorem ck_drew {w : World} {p : Addr} {v : Value} (h : w.cell? p = some v) : w.drew.cell? p = some v := h
theorem ck_set {w : World} {p a : Addr} {v : Value} (h : w.cell? p = some v) (hne : p.block ≠ a.block) (u : Value) : (w.setCell a u).cell? p = some v := by
  rw [World.cell?_of_block (Below.heap_setCell w a u p.block hne)]; exact h

theorem ck_same {w : World} {p : Addr} {u : Value} (h : (w.cell? p).isSome = true) : (w.setCell p u).cell? p = some u := by
  obtain ⟨v, h⟩ := Option.isSome_iff_exists.1 h
  exact World.cell?_setCell_same w p u h
theorem is_set {w : World} {p a : Addr} {u : Value} (h : (w.cell? p).isSome = true) : ((w.setCell a u).cell? p).isSome = true := by
  by_cases e : a = p
  · subst e; rw [ck_same h]; rfl
  · rw [World.cell?_setCell_other w _ _ _ e]; exact h
theorem is_alloc {w : World} {p : Addr} {o : Obj} (h : (w.cell? p).isSome = true) : ((w.alloc o).cell? p).isSome = true := by
  obtain ⟨v, h⟩ := Option.isSome_iff_exists.1 h
  rw [ck_alloc h]; rfl
theorem is_drew {w : World} {p : Addr} (h : (w.cell? p).isSome = true) : (w.drew.cell? p).isSome = true := h
theorem is_new {w : World} {c : Array Value} {t : TypeId} {k : Nat} (h : k < c.size) : ((w.alloc (.cells c t)).cell? ⟨w.heap.size, k, none⟩).isSome = true := by
  rw [World.cell?_alloc_new]
  simp [h]
theorem ck_below {w w1 : World} {p : Addr} {v : Value} (hb : Below w.heap.size w w1) (h : w.cell? p = some v) : w1.cell? p = some v := by
  rw [hb.cell (World.block_lt_of_cell? w p h)]; exact h
theorem is_below {w w1 : World} {p : Addr} (hb : Below w.heap.size w w1) (h : (w.cell? p).isSome = true) : (w1.cell? p).isSome = true := by
  obtain ⟨v, h⟩ := Option.isSome_iff_exists.1 h
  rw [ck_below hb h]; rfl
theorem ck_off {w : World} {b o o' : Nat} {s : Option Nat} {v : Value} (h : w.cell? ⟨b, o, s⟩ = some v) (hne : o ≠ o') (u : Value) : (w.setCell ⟨b, o', s⟩ u).cell? ⟨b, o, s⟩ = some v := by
  rw [World.cell?_setCell_other w _ _ _ (fun e => hne (by injection e with _ e2; exact e2.symm))]; exact h
theorem hb_alloc {B : Nat} {a w : World} (h : Hid (Below B a w)) (hB : B ≤ w.heap.size) (o : Obj) : Hid (Below B a (w.alloc o)) := Below.alloc h hB o
theorem hb_set {B : Nat} {a w : World} (h : Hid (Below B a w)) {p : Addr} (hp : B ≤ p.block) (u : Value) : Hid (Below B a (w.setCell p u)) := Below.setCell h hp u
theorem hb_drew {B : Nat} {a w : World} (h : Hid (Below B a w)) : Hid (Below B a w.drew) := Below.drew h
theorem hb_trans {B : Nat} {a w w' : World} (h : Hid (Below B a w)) (k : Below w.heap.size w w') (hB : B ≤ w.heap.size) : Hid (Below B a w') := Below.trans h (k.mono hB)

theorem flip_same {P : Program} {f : FuncId} {args : Array Value} {w : World} {v : Value}
    (h : Calls P f args w fun e w' => e = .returned v ∧ w = w') : Calls P f args w fun e w' => e = .returned v ∧ w' = w :=
  h.mono fun _ _ ⟨he, hm⟩ => ⟨he, hm.symm⟩

/-! ### plain: signs of products -/
theorem sn_pos {x : Int} (h : 0 < x) : sn x = 1 := by unfold sn; split <;> first | omega | (split <;> omega)
theorem sn_neg {x : Int} (h : x < 0) : sn x = -1 := if_pos h
theorem sn_zero : sn 0 = 0 := rfl
theorem sn_cases (x : Int) : (sn x = 1 ∧ 0 < x) ∨ (sn x = -1 ∧ x < 0) ∨ (sn x = 0 ∧ x = 0) := by
  unfold sn; split <;> first | omega | (split <;> omega)
theorem sn_flip (x y : Int) : sn (x - y) * -1 = sn (y - x) := by
  rcases sn_cases (x - y) with ⟨h, h'⟩ | ⟨h, h'⟩ | ⟨h, h'⟩
  · rw [h, sn_neg (show y - x < 0 by omega)]; rfl
  · rw [h, sn_pos (show 0 < y - x by omega)]; rfl
  · rw [h, show y - x = 0 by omega]; rfl
theorem lex_hi {m n : Int} (h : ¬ sn (m / 18446744073709551616 - n / 18446744073709551616) = 0) : sn (m / 18446744073709551616 - n / 18446744073709551616) = sn (m - n) := by
  rcases sn_cases (m / 18446744073709551616 - n / 18446744073709551616) with ⟨e, h'⟩ | ⟨e, h'⟩ | ⟨e, h'⟩
  · rw [e, sn_pos (by omega)]
  · rw [e, sn_neg (by omega)]
  · exact absurd e h
theorem lex_lo {m n : Int} (h : sn (m / 18446744073709551616 - n / 18446744073709551616) = 0) : sn (m % 18446744073709551616 - n % 18446744073709551616) = sn (m - n) := by
  have : m / 18446744073709551616 - n / 18446744073709551616 = 0 := by
    rcases sn_cases (m / 18446744073709551616 - n / 18446744073709551616) with ⟨e, h'⟩ | ⟨e, h'⟩ | ⟨e, h'⟩ <;> omega
  congr 1
  omega
theorem cmp_same {a b c d : Int} (hb : 1 ≤ b) (hd : 1 ≤ d) (hs : sn (sn a - sn c) = 0) (ha : ¬ a = 0) : sn (mg a * mg d - mg c * mg b) * sn a = sn (a * d - c * b) := by
  rw [show mg b = b from mg_pos (by omega), show mg d = d from mg_pos (by omega)]
  rcases sn_cases a with ⟨e, h⟩ | ⟨e, h⟩ | ⟨e, h⟩
  · rcases sn_cases c with ⟨e', h'⟩ | ⟨e', h'⟩ | ⟨e', h'⟩
    · rw [mg_pos (show ¬ a < 0 by omega), mg_pos (show ¬ c < 0 by omega), e, Int.mul_one]
    · rw [e, e'] at hs; exact absurd hs (by decide)
    · rw [e, e'] at hs; exact absurd hs (by decide)
  · rcases sn_cases c with ⟨e', h'⟩ | ⟨e', h'⟩ | ⟨e', h'⟩
    · rw [e, e'] at hs; exact absurd hs (by decide)
    · rw [mg_neg h, mg_neg h', e, sn_flip]
      congr 1
      rw [Int.neg_mul, Int.neg_mul]; omega
    · rw [e, e'] at hs; exact absurd hs (by decide)
  · exact absurd h ha
theorem cmp_unlike {a b c d : Int} (hb : 1 ≤ b) (hd : 1 ≤ d) (hs : ¬ sn (sn a - sn c) = 0) : sn (sn a - sn c) = sn (a * d - c * b) := by
  have pa : 0 < a → 0 < a * d := fun h => Int.mul_pos h (by omega)
  have na : a < 0 → a * d < 0 := fun h => Int.mul_neg_of_neg_of_pos h (by omega)
  have pc : 0 < c → 0 < c * b := fun h => Int.mul_pos h (by omega)
  have nc : c < 0 → c * b < 0 := fun h => Int.mul_neg_of_neg_of_pos h (by omega)
  have za : a = 0 → a * d = 0 := fun h => by rw [h, Int.zero_mul]
  have zc : c = 0 → c * b = 0 := fun h => by rw [h, Int.zero_mul]
  rcases sn_cases a with ⟨e, h⟩ | ⟨e, h⟩ | ⟨e, h⟩ <;> rcases sn_cases c with ⟨e', h'⟩ | ⟨e', h'⟩ | ⟨e', h'⟩ <;> rw [e, e'] at hs ⊢
  all_goals first
    | exact absurd rfl hs
    | (have := pa h; have := nc h'; rw [sn_pos (show 0 < a * d - c * b by omega)]; rfl)
    | (have := pa h; have := zc h'; rw [sn_pos (show 0 < a * d - c * b by omega)]; rfl)
    | (have := na h; have := pc h'; rw [sn_neg (show a * d - c * b < 0 by omega)]; rfl)
    | (have := na h; have := zc h'; rw [sn_neg (show a * d - c * b < 0 by omega)]; rfl)
    | (have := za h; have := pc h'; rw [sn_neg (show a * d - c * b < 0 by omega)]; rfl)
    | (have := za h; have := nc h'; rw [sn_pos (show 0 < a * d - c * b by omega)]; rfl)
theorem cmp_nil {b c d : Int} (hs : sn (sn 0 - sn c) = 0) : sn (0 * d - c * b) = 0 := by
  rcases sn_cases c with ⟨e', h'⟩ | ⟨e', h'⟩ | ⟨e', h'⟩
  · rw [e'] at hs; exact absurd hs (by decide)
  · rw [e'] at hs; exact absurd hs (by decide)
  · rw [h', Int.zero_mul, Int.zero_mul]; rfl
theorem sn_wrap (x y : Int) : wrap64 (sn x * sn y) = sn x * sn y := by
  rcases sn_cases x with ⟨e, -⟩ | ⟨e, -⟩ | ⟨e, -⟩ <;> rcases sn_cases y with ⟨e', -⟩ | ⟨e', -⟩ | ⟨e', -⟩ <;> rw [e, e'] <;> unfold wrap64 <;> omega

theorem quiet_same {P : Program} {f : FuncId} {args : Array Value} {w : World} {n : Nat} {v : Value}
    (h : Calls P f args (w.drewN n) fun e w' => e = .returned v ∧ w.drewN n = w') : Calls P f args (w.drewN n) fun e w'' => e = .returned v ∧ ∃ m, w'' = w.drewN m :=
  h.mono fun _ _ ⟨he, hm⟩ => ⟨he, n, hm.symm⟩

end Go.Proofs.Ytpfdoifkimjlbaa

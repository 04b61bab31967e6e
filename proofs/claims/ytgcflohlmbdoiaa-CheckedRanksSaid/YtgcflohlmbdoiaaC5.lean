/- package checked's Compare: which of two fractions is the greater one. -/
import Derived.Test.YtgcflohlmbdoiaaC4
import Derived.Deep.RegionHeld3
import Derived.Deep.DeepCutAuto
import Derived.StillTailTactics
namespace Go.Proofs.Ytgcflohlmbdoiaa
open Go.RowKit M
set_option linter.unusedVariables false
set_option linter.unusedSimpArgs false

theorem ck_alloc {w : World} {p : Addr} {v : Value} (h : w.cell? p = some v) (o : Obj) : (w.alloc o).cell? p = some v := (World.cell?_alloc_some w p o (by rw [h]; rfl)).trans h
theorem ck_drew {w : World} {p : Addr} {v : Value} (h : w.cell? p = some v) : w.drew.cell? p = some v := h
theorem ck_set {w : World} {p a : Addr} {v : Value} (h : w.cell? p = some v) (hne : p.block ≠ a.block) (u : Value) : (w.setCell a u).cell? p = some v := by
  rw [World.cell?_of_block (Below.heap_setCell w a u p.block hne)]; exact h

theorem ck_same {w : World} {p : Addr} {u : Value} (h : (w.cell? p).isSome = true) : (w.setCell p u).cell? p = some u := by
  obtain ⟨v, h⟩ := Option.isSome_iff_exists.1 h
  exact World.cell?_setCell_same w p u h
theorem is_set {w : World} {p a : Addr} {u : Value} (h : (w.cell? p).isSome = true) : ((w.setCell a u).cell? p).isSome = true := by
  by_cases e : a = p
  · subst e; rw [ck_same h]; rfl
  · rw [World.cell?_setCell_other w _ _ _ e]; exact h
theorem is_alloc {w : World} {p : Addr} {o : Obj} (h : (w.cell? p).isSome = true) : ((w.alloc o).cell? p).isSome = true := by
  obtain ⟨v, h⟩ := Option.isSome_iff_exists.1 h
  rw [ck_alloc h]; rfl
theorem is_drew {w : World} {p : Addr} (h : (w.cell? p).isSome = true) : (w.drew.cell? p).isSome = true := h
theorem is_new {w : World} {c : Array Value} {t : TypeId} {k : Nat} (h : k < c.size) : ((w.alloc (.cells c t)).cell? ⟨w.heap.size, k, none⟩).isSome = true := by
  rw [World.cell?_alloc_new]
  simp [h]
theorem ck_below {w w1 : World} {p : Addr} {v : Value} (hb : Below w.heap.size w w1) (h : w.cell? p = some v) : w1.cell? p = some v := by
  rw [hb.cell (World.block_lt_of_cell? w p h)]; exact h
theorem is_below {w w1 : World} {p : Addr} (hb : Below w.heap.size w w1) (h : (w.cell? p).isSome = true) : (w1.cell? p).isSome = true := by
  obtain ⟨v, h⟩ := Option.isSome_iff_exists.1 h
  rw [ck_below hb h]; rfl
theorem ck_off {w : World} {b o o' : Nat} {s : Option Nat} {v : Value} (h : w.cell? ⟨b, o, s⟩ = some v) (hne : o ≠ o') (u : Value) : (w.setCell ⟨b, o', s⟩ u).cell? ⟨b, o, s⟩ = some v := by
  rw [World.cell?_setCell_other w _ _ _ (fun e => hne (by injection e with _ e2; exact e2.symm))]; exact h
theorem hb_alloc {B : Nat} {a w : World} (h : Hid (Below B a w)) (hB : B ≤ w.heap.size) (o : Obj) : Hid (Below B a (w.alloc o)) := Below.alloc h hB o
theorem hb_set {B : Nat} {a w : World} (h : Hid (Below B a w)) {p : Addr} (hp : B ≤ p.block) (u : Value) : Hid (Below B a (w.setCell p u)) := Below.setCell h hp u
theorem hb_drew {B : Nat} {a w : World} (h : Hid (Below B a w)) : Hid (Below B a w.drew) := Below.drew h
theorem hb_trans {B : Nat} {a w w' : World} (h : Hid (Below B a w)) (k : Below w.heap.size w w') (hB : B ≤ w.heap.size) : Hid (Below B a w') := Below.trans h (k.mono hB)

theorem flip_same {P : Program} {f : FuncId} {args : Array Value} {w : World} {v : Value}
    (h : Calls P f args w fun e w' => e = .returned v ∧ w = w') : Calls P f args w fun e w' => e = .returned v ∧ w' = w :=
  h.mono fun _ _ ⟨he, hm⟩ => ⟨he, hm.symm⟩

/-! ### plain: signs of products -/
theorem sn_pos {x : Int} (h : 0 < x) : sn x = 1 := by unfold sn; split <;> first | omega | (split <;> omega)
theorem sn_neg {x : Int} (h : x < 0) : sn x = -1 := if_pos h
theorem sn_zero : sn 0 = 0 := rfl
theorem sn_cases (x : Int) : (sn x = 1 ∧ 0 < x) ∨ (sn x = -1 ∧ x < 0) ∨ (sn x = 0 ∧ x = 0) := by
  unfold sn; split <;> first | omega | (split <;> omega)
theorem sn_flip (x y : Int) : sn (x - y) * -1 = sn (y - x) := by
  rcases sn_cases (x - y) with ⟨h, h'⟩ | ⟨h, h'⟩ | ⟨h, h'⟩
  · rw [h, sn_neg (show y - x < 0 by omega)]; rfl
  · rw [h, sn_pos (show 0 < y - x by omega)]; rfl
  · rw [h, show y - x = 0 by omega]; rfl
theorem lex_hi {m n : Int} (h : ¬ sn (m / 18446744073709551616 - n / 18446744073709551616) = 0) : sn (m / 18446744073709551616 - n / 18446744073709551616) = sn (m - n) := by
  rcases sn_cases (m / 18446744073709551616 - n / 18446744073709551616) with ⟨e, h'⟩ | ⟨e, h'⟩ | ⟨e, h'⟩
  · rw [e, sn_pos (by omega)]
  · rw [e, sn_neg (by omega)]
  · exact absurd e h
theorem lex_lo {m n : Int} (h : sn (m / 18446744073709551616 - n / 18446744073709551616) = 0) : sn (m % 18446744073709551616 - n % 18446744073709551616) = sn (m - n) := by
  have : m / 18446744073709551616 - n / 18446744073709551616 = 0 := by
    rcases sn_cases (m / 18446744073709551616 - n / 18446744073709551616) with ⟨e, h'⟩ | ⟨e, h'⟩ | ⟨e, h'⟩ <;> omega
  congr 1
  omega
theorem cmp_same {a b c d : Int} (hb : 1 ≤ b) (hd : 1 ≤ d) (hs : sn (sn a - sn c) = 0) (ha : ¬ a = 0) : sn (mg a * mg d - mg c * mg b) * sn a = sn (a * d - c * b) := by
  rw [show mg b = b from mg_pos (by omega), show mg d = d from mg_pos (by omega)]
  rcases sn_cases a with ⟨e, h⟩ | ⟨e, h⟩ | ⟨e, h⟩
  · rcases sn_cases c with ⟨e', h'⟩ | ⟨e', h'⟩ | ⟨e', h'⟩
    · rw [mg_pos (show ¬ a < 0 by omega), mg_pos (show ¬ c < 0 by omega), e, Int.mul_one]
    · rw [e, e'] at hs; exact absurd hs (by decide)
    · rw [e, e'] at hs; exact absurd hs (by decide)
  · rcases sn_cases c with ⟨e', h'⟩ | ⟨e', h'⟩ | ⟨e', h'⟩
    · rw [e, e'] at hs; exact absurd hs (by decide)
    · rw [mg_neg h, mg_neg h', e, sn_flip]
      congr 1
      rw [Int.neg_mul, Int.neg_mul]; omega
    · rw [e, e'] at hs; exact absurd hs (by decide)
  · exact absurd h ha
theorem cmp_unlike {a b c d : Int} (hb : 1 ≤ b) (hd : 1 ≤ d) (hs : ¬ sn (sn a - sn c) = 0) : sn (sn a - sn c) = sn (a * d - c * b) := by
  have pa : 0 < a → 0 < a * d := fun h => Int.mul_pos h (by omega)
  have na : a < 0 → a * d < 0 := fun h => Int.mul_neg_of_neg_of_pos h (by omega)
  have pc : 0 < c → 0 < c * b := fun h => Int.mul_pos h (by omega)
  have nc : c < 0 → c * b < 0 := fun h => Int.mul_neg_of_neg_of_pos h (by omega)
  have za : a = 0 → a * d = 0 := fun h => by rw [h, Int.zero_mul]
  have zc : c = 0 → c * b = 0 := fun h => by rw [h, Int.zero_mul]
  rcases sn_cases a with ⟨e, h⟩ | ⟨e, h⟩ | ⟨e, h⟩ <;> rcases sn_cases c with ⟨e', h'⟩ | ⟨e', h'⟩ | ⟨e', h'⟩ <;> rw [e, e'] at hs ⊢
  all_goals first
    | exact absurd rfl hs
    | (have := pa h; have := nc h'; rw [sn_pos (show 0 < a * d - c * b by omega)]; rfl)
    | (have := pa h; have := zc h'; rw [sn_pos (show 0 < a * d - c * b by omega)]; rfl)
    | (have := na h; have := pc h'; rw [sn_neg (show a * d - c * b < 0 by omega)]; rfl)
    | (have := na h; have := zc h'; rw [sn_neg (show a * d - c * b < 0 by omega)]; rfl)
    | (have := za h; have := pc h'; rw [sn_neg (show a * d - c * b < 0 by omega)]; rfl)
    | (have := za h; have := nc h'; rw [sn_pos (show 0 < a * d - c * b by omega)]; rfl)
theorem cmp_nil {b c d : Int} (hs : sn (sn 0 - sn c) = 0) : sn (0 * d - c * b) = 0 := by
  rcases sn_cases c with ⟨e', h'⟩ | ⟨e', h'⟩ | ⟨e', h'⟩
  · rw [e'] at hs; exact absurd hs (by decide)
  · rw [e'] at hs; exact absurd hs (by decide)
  · rw [h', Int.zero_mul, Int.zero_mul]; rfl
theorem sn_wrap (x y : Int) : wrap64 (sn x * sn y) = sn x * sn y := by
  rcases sn_cases x with ⟨e, -⟩ | ⟨e, -⟩ | ⟨e, -⟩ <;> rcases sn_cases y with ⟨e', -⟩ | ⟨e', -⟩ | ⟨e', -⟩ <;> rw [e, e'] <;> unfold wrap64 <;> omega

theorem quiet_same {P : Program} {f : FuncId} {args : Array Value} {w : World} {n : Nat} {v : Value}
    (h : Calls P f args (w.drewN n) fun e w' => e = .returned v ∧ w.drewN n = w') : Calls P f args (w.drewN n) fun e w'' => e = .returned v ∧ ∃ m, w'' = w.drewN m :=
  h.mono fun _ _ ⟨he, hm⟩ => ⟨he, n, hm.symm⟩

/-- cmp.Or of two numbers. -/
theorem or_left (x y : Int) (b cap : Nat) (w : World) (h0 : w.cell? ⟨b, 0, none⟩ = some (.int .i64 x)) (hx : (x != 0) = true) :
    Calls Try.prog 45 #[.slice (some ⟨b, 0, none⟩) 2 cap] w fun e w' => e = .returned (.int .i64 x) ∧ w = w' := by
  go_enter Try.func45, Try.ntmps45
  go_wp2
  go_loop [8] (fun i => i = .int .i64 0) (fun i => 0)
  case atStart => trivial
  case round =>
    subst hrel
    go_wp2
    go_ret
    exact ⟨rfl, rfl⟩

theorem or_right (y : Int) (b cap : Nat) (w : World) (h0 : w.cell? ⟨b, 0, none⟩ = some (.int .i64 0)) (h1 : w.cell? ⟨b, 1, none⟩ = some (.int .i64 y)) :
    Calls Try.prog 45 #[.slice (some ⟨b, 0, none⟩) 2 cap] w fun e w' => e = .returned (.int .i64 y) ∧ w = w' := by
  go_enter Try.func45, Try.ntmps45
  go_wp2
  go_loop [8] (fun i => ∃ k : Nat, i = .int .i64 k ∧ k ≤ 2 ∧ (k = 2 → y = 0)) (fun i => 2 - (intOf i).toNat)
  case atStart => exact ⟨0, rfl, by omega, by omega⟩
  case round =>
    obtain ⟨k, rfl, hk, hy⟩ := hrel
    rcases (by omega : k = 0 ∨ k = 1 ∨ k = 2) with rfl | rfl | rfl
    · clear hy
      go_wp2
      go_round
      case rel => exact ⟨1, rfl, by omega, by omega⟩
      case measure => simp [intOf]
    · clear hy
      by_cases hy : y = 0
      · subst hy
        go_wp2
        go_round
        case rel => exact ⟨2, rfl, by omega, fun _ => trivial⟩
        case measure => simp [intOf]
      · have hyb : (y != 0) = true := by simpa using hy
        clear hy
        go_wp2
        go_ret
        exact ⟨rfl, rfl⟩
    · have hy0 : y = 0 := hy rfl
      subst hy0
      clear hy
      go_wp2
      go_ret
      exact ⟨rfl, rfl⟩

theorem compare_arg (a b c d : Int) (w : World) (h : b < 1 ∨ d < 1) :
    Calls Try.prog 26 #[.agg #[.int .i64 a, .int .i64 b], .agg #[.int .i64 c, .int .i64 d]] w fun e w' => e = .returned (.tuple #[.int .i64 0, .int .i64 2]) ∧ Below w.heap.size w w' := by
  have fin : ∀ o o', Below w.heap.size w ((w.alloc o).alloc o') := fun o o' => ((Below.refl _ _).alloc (Nat.le_refl _) _).alloc (by simp) _
  have FIN := Lib.hid fin
  clear fin
  by_cases hb : b < 1
  · go_enter Try.func26, Try.ntmps26
    go_wp2
    go_ret2
    exact ⟨rfl, FIN.out _ _⟩
  · have hd : d < 1 := by omega
    clear h
    go_enter Try.func26, Try.ntmps26
    go_wp2
    go_ret2
    exact ⟨rfl, FIN.out _ _⟩

set_option maxHeartbeats 6000000 in
theorem compare_any (a b c d : Int) (w : World) (h0 : -9223372036854775808 ≤ a) (h1 : a ≤ 9223372036854775807) (h2 : 1 ≤ b) (h3 : b ≤ 9223372036854775807)
    (h4 : -9223372036854775808 ≤ c) (h5 : c ≤ 9223372036854775807) (h6 : 1 ≤ d) (h7 : d ≤ 9223372036854775807) :
    Calls Try.prog 26 #[.agg #[.int .i64 a, .int .i64 b], .agg #[.int .i64 c, .int .i64 d]] w fun e w' => e = .returned (.tuple #[.int .i64 (sn (a * d - c * b)), .int .i64 0]) ∧ Below w.heap.size w w' := by
  by_cases hs : sn (sn a - sn c) = 0
  · by_cases ha : a = 0
    · subst ha
      have hs0 : (sn (sn 0 - sn c) == 0) = true := by simp [hs]
      have hs1 : (sn (sn 0 - sn c) != 0) = false := by simp [hs]
      have HSN := Lib.hid hs
      clear hs
      go_enter Try.func26, Try.ntmps26
      go_wp2_with fail
      go_quiet ((first | (go_at_call 44; exact quiet_same (sign_any _ _)) | (go_at_call 43; exact quiet_same (cmpi_any _ _ _))))
      go_wp2
      go_ret2
      exact ⟨ret_two (by rw [cmp_nil HSN.out]; exact HSN.out) rfl, below_drewN (((Below.refl _ _).alloc (Nat.le_refl _) _).alloc (by simp) _) _⟩
    · have hs0 : (sn (sn a - sn c) == 0) = true := by simp [hs]
      have hs1 : (sn (sn a - sn c) != 0) = false := by simp [hs]
      have ha1 : (a == 0) = false := by simpa using ha
      have HSN := Lib.hid hs
      have HA := Lib.hid ha
      clear hs ha
      go_enter Try.func26, Try.ntmps26
      go_wp2_with fail
      go_quiet ((first | (go_at_call 44; exact quiet_same (sign_any _ _)) | (go_at_call 43; exact quiet_same (cmpi_any _ _ _))))
      go_wp2_with fail
      obtain ⟨w2, hw2⟩ : ∃ w2, ((w.alloc (Obj.cells #[Value.int IntKind.i64 a, Value.int IntKind.i64 b] 32)).alloc (Obj.cells #[Value.int IntKind.i64 c, Value.int IntKind.i64 d] 32)).drewN nq = w2 := ⟨_, rfl⟩
      have g1 : w2.cell? ⟨w.heap.size, 0, none⟩ = some (.int .i64 a) := by subst hw2; simp [World.cell?_alloc_new, World.cell?_alloc_past]
      have g2 : w2.cell? ⟨w.heap.size, 1, none⟩ = some (.int .i64 b) := by subst hw2; simp [World.cell?_alloc_new, World.cell?_alloc_past]
      have g3 : w2.cell? ⟨w.heap.size + 1, 0, none⟩ = some (.int .i64 c) := by subst hw2; simp [go_sem]
      have g4 : w2.cell? ⟨w.heap.size + 1, 1, none⟩ = some (.int .i64 d) := by subst hw2; simp [go_sem]
      have g5 : w.heap.size + 2 ≤ w2.heap.size := by subst hw2; simp
      have g7 : w.heap.size + 1 < w2.heap.size := by omega
      have g8 : w.heap.size < w2.heap.size := by omega
      have g6 : Hid (Below w.heap.size w w2) := by subst hw2; exact below_drewN (((Below.refl _ _).alloc (Nat.le_refl _) _).alloc (by simp) _) _
      rw [hw2]
      clear hw2
      go_cut [7, 8] (fun v7 v8 wc => ∃ p q : Nat, v7 = .pointer (some ⟨p, 0, none⟩) ∧ v8 = .pointer (some ⟨q, 0, none⟩) ∧
        wc.cell? ⟨p, 0, none⟩ = some (.int .u64 (mg a * mg d / 18446744073709551616)) ∧ wc.cell? ⟨p, 1, none⟩ = some (.int .u64 (mg a * mg d % 18446744073709551616)) ∧
        wc.cell? ⟨q, 0, none⟩ = some (.int .u64 (mg c * mg b / 18446744073709551616)) ∧ wc.cell? ⟨q, 1, none⟩ = some (.int .u64 (mg c * mg b % 18446744073709551616)) ∧
        wc.cell? ⟨w.heap.size, 0, none⟩ = some (.int .i64 a) ∧ Hid (Below w.heap.size w wc))
      case first =>
        go_region_held3 (fun w' => w'.cell? ⟨w.heap.size, 0, none⟩ = some (.int .i64 a) ∧ w'.cell? ⟨w.heap.size, 1, none⟩ = some (.int .i64 b) ∧ w'.cell? ⟨w.heap.size + 1, 0, none⟩ = some (.int .i64 c) ∧ w'.cell? ⟨w.heap.size + 1, 1, none⟩ = some (.int .i64 d)) ((refine ⟨?_, ?_, ?_, ?_⟩ <;> (repeat (first | (with_reducible assumption) | (with_reducible refine ck_alloc ?_ _) | (with_reducible refine ck_set ?_ ?_ _) | (with_reducible refine ck_drew ?_) | (dsimp only; omega)))))
          (first
            | (go_at_call_of 33 (Value.int .i64 a); go_must (refine (product_any _ _ _ (by omega) (by omega) (by omega) (by omega)).mono ?_; rintro e w3 ⟨rfl, hb3⟩; obtain ⟨hc3, hf3⟩ := bcell hb3; have hz3 := hb3.size; (try simp at hz3); have hy3 : w.heap.size + 1 < w3.heap.size := (by omega); have hx3 : w.heap.size < w3.heap.size := (by omega); have hB3 : Hid (Below w.heap.size w w3) := hb_trans (by { repeat (first | (with_reducible assumption) | (with_reducible refine hb_alloc ?_ ?_ _) | (with_reducible refine hb_set ?_ ?_ _) | (with_reducible refine hb_drew ?_) | omega | (simp; omega) | (simp; done) | (dsimp only; omega)) }) hb3 (by first | omega | (simp; omega)); (try have hp3 := Nat.lt_of_succ_le hz3); (try have hq3 := Nat.lt_of_succ_lt hp3); (try have hv3 : w2.heap.size < w3.heap.size := (by omega)); (try have hu3 : w2.heap.size + 1 < w3.heap.size := (by omega)); have k0 : w3.cell? ⟨w.heap.size, 0, none⟩ = some (.int .i64 a) := by { rw [hc3 _ _ (by first | (simp; done) | (simp; omega) | omega)]; repeat (first | (with_reducible assumption) | (with_reducible refine ck_alloc ?_ _) | (with_reducible refine ck_set ?_ ?_ _) | (with_reducible refine ck_drew ?_) | (dsimp only; omega)) }; have k1 : w3.cell? ⟨w.heap.size, 1, none⟩ = some (.int .i64 b) := by { rw [hc3 _ _ (by first | (simp; done) | (simp; omega) | omega)]; repeat (first | (with_reducible assumption) | (with_reducible refine ck_alloc ?_ _) | (with_reducible refine ck_set ?_ ?_ _) | (with_reducible refine ck_drew ?_) | (dsimp only; omega)) }; have k2 : w3.cell? ⟨w.heap.size + 1, 0, none⟩ = some (.int .i64 c) := by { rw [hc3 _ _ (by first | (simp; done) | (simp; omega) | omega)]; repeat (first | (with_reducible assumption) | (with_reducible refine ck_alloc ?_ _) | (with_reducible refine ck_set ?_ ?_ _) | (with_reducible refine ck_drew ?_) | (dsimp only; omega)) }; have k3 : w3.cell? ⟨w.heap.size + 1, 1, none⟩ = some (.int .i64 d) := by { rw [hc3 _ _ (by first | (simp; done) | (simp; omega) | omega)]; repeat (first | (with_reducible assumption) | (with_reducible refine ck_alloc ?_ _) | (with_reducible refine ck_set ?_ ?_ _) | (with_reducible refine ck_drew ?_) | (dsimp only; omega)) }))
            | (go_at_call_of 33 (Value.int .i64 c); go_must (refine (product_any _ _ _ (by omega) (by omega) (by omega) (by omega)).mono ?_; rintro e w3 ⟨rfl, hb3⟩; obtain ⟨hc3, hf3⟩ := bcell hb3; have hz3 := hb3.size; (try simp at hz3); have hy3 : w.heap.size + 1 < w3.heap.size := (by omega); have hx3 : w.heap.size < w3.heap.size := (by omega); have hB3 : Hid (Below w.heap.size w w3) := hb_trans (by { repeat (first | (with_reducible assumption) | (with_reducible refine hb_alloc ?_ ?_ _) | (with_reducible refine hb_set ?_ ?_ _) | (with_reducible refine hb_drew ?_) | omega | (simp; omega) | (simp; done) | (dsimp only; omega)) }) hb3 (by first | omega | (simp; omega)); (try have hp3 := Nat.lt_of_succ_le hz3); (try have hq3 := Nat.lt_of_succ_lt hp3); (try have hv3 : w2.heap.size < w3.heap.size := (by omega)); (try have hu3 : w2.heap.size + 1 < w3.heap.size := (by omega)); have k0 : w3.cell? ⟨w.heap.size, 0, none⟩ = some (.int .i64 a) := by { rw [hc3 _ _ (by first | (simp; done) | (simp; omega) | omega)]; repeat (first | (with_reducible assumption) | (with_reducible refine ck_alloc ?_ _) | (with_reducible refine ck_set ?_ ?_ _) | (with_reducible refine ck_drew ?_) | (dsimp only; omega)) }; have k1 : w3.cell? ⟨w.heap.size, 1, none⟩ = some (.int .i64 b) := by { rw [hc3 _ _ (by first | (simp; done) | (simp; omega) | omega)]; repeat (first | (with_reducible assumption) | (with_reducible refine ck_alloc ?_ _) | (with_reducible refine ck_set ?_ ?_ _) | (with_reducible refine ck_drew ?_) | (dsimp only; omega)) }; have k2 : w3.cell? ⟨w.heap.size + 1, 0, none⟩ = some (.int .i64 c) := by { rw [hc3 _ _ (by first | (simp; done) | (simp; omega) | omega)]; repeat (first | (with_reducible assumption) | (with_reducible refine ck_alloc ?_ _) | (with_reducible refine ck_set ?_ ?_ _) | (with_reducible refine ck_drew ?_) | (dsimp only; omega)) }; have k3 : w3.cell? ⟨w.heap.size + 1, 1, none⟩ = some (.int .i64 d) := by { rw [hc3 _ _ (by first | (simp; done) | (simp; omega) | omega)]; repeat (first | (with_reducible assumption) | (with_reducible refine ck_alloc ?_ _) | (with_reducible refine ck_set ?_ ?_ _) | (with_reducible refine ck_drew ?_) | (dsimp only; omega)) })))
        all_goals
          go_wp2_with fail
          go_meet
          refine ⟨_, _, rfl, rfl, ?_, ?_, ?_, ?_, ?_, ?_⟩
        all_goals try (repeat (first | (with_reducible assumption) | (with_reducible refine hb_alloc ?_ ?_ _) | (with_reducible refine hb_set ?_ ?_ _) | (with_reducible refine hb_drew ?_) | omega | (simp; omega) | (simp; done) | (dsimp only; omega)))
        all_goals try (simp [go_sem, *]; done)
        all_goals (repeat (first | (with_reducible assumption) | (with_reducible refine ck_alloc ?_ _) | (with_reducible refine ck_same ?_) | (with_reducible refine ck_off ?_ ?_ _) | (with_reducible refine ck_set ?_ ?_ _) | (with_reducible refine ck_drew ?_) | (with_reducible refine is_set ?_) | (with_reducible exact is_new (by decide)) | (with_reducible refine is_alloc ?_) | (with_reducible refine is_drew ?_) | ((with_reducible refine is_below (by with_reducible assumption) ?_)) | omega | (dsimp only; omega)))
      case rest =>
        obtain ⟨p, q, rfl, rfl, p0, p1, q0, q1, ca, hB⟩ := hcut
        have hlt : w.heap.size < wc.heap.size := World.block_lt_of_cell? wc _ ca
        have hne : ¬ w.heap.size = wc.heap.size := by omega
        go_wp2_with fail
        go_still_tail 10, (by kernel_rfl)
        still_call (flip_same (cmpu_any _ _ _))
        repeat still_step
        still_call (flip_same (cmpu_any _ _ _))
        repeat still_step
        refine wpStill_nil ?_
        by_cases hh : sn (mg a * mg d / 18446744073709551616 - mg c * mg b / 18446744073709551616) = 0
        · have HH := Lib.hid (lex_lo hh)
          go_wp2_with fail
          refine (or_right (sn (mg a * mg d % 18446744073709551616 - mg c * mg b % 18446744073709551616)) _ _ _ (by simp [go_sem]) (by simp [go_sem])).mono ?_
          rintro e w3 ⟨rfl, rfl⟩
          clear hh
          go_wp2_with fail
          refine (sign_any _ _).mono ?_
          rintro e w3 ⟨rfl, rfl⟩
          go_wp2
          go_ret2
          exact ⟨ret_two (by rw [HH.out, ← cmp_same h2 h6 HSN.out HA.out]; exact sn_wrap _ _) rfl, Below.drew (Below.alloc hB hB.size _)⟩
        · have HH := Lib.hid (lex_hi hh)
          have hhb : (sn (mg a * mg d / 18446744073709551616 - mg c * mg b / 18446744073709551616) != 0) = true := by simpa using hh
          clear hh
          go_wp2_with fail
          refine (or_left (sn (mg a * mg d / 18446744073709551616 - mg c * mg b / 18446744073709551616)) (sn (mg a * mg d % 18446744073709551616 - mg c * mg b % 18446744073709551616)) _ _ _ (by simp [go_sem]) hhb).mono ?_
          rintro e w3 ⟨rfl, rfl⟩
          clear hhb
          go_wp2_with fail
          refine (sign_any _ _).mono ?_
          rintro e w3 ⟨rfl, rfl⟩
          go_wp2
          go_ret2
          exact ⟨ret_two (by rw [HH.out, ← cmp_same h2 h6 HSN.out HA.out]; exact sn_wrap _ _) rfl, Below.drew (Below.alloc hB hB.size _)⟩
  · have hs1 : (sn (sn a - sn c) != 0) = true := by simpa using hs
    have HS := Lib.hid (cmp_unlike h2 h6 hs)
    clear hs
    go_enter Try.func26, Try.ntmps26
    go_wp2_with fail
    go_quiet ((first | (go_at_call 44; exact quiet_same (sign_any _ _)) | (go_at_call 43; exact quiet_same (cmpi_any _ _ _))))
    go_wp2
    go_ret2
    exact ⟨ret_two HS.out rfl, below_drewN (((Below.refl _ _).alloc (Nat.le_refl _) _).alloc (by simp) _) _⟩

end Go.Proofs.Ytgcflohlmbdoiaa

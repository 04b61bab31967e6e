/- THE CONTRACTS of package splay: check, Set, Value, Split, Reverse, Pos, Len, Min, Sum. -/
import Derived.Test.YtblopfgnhokocaaE
import Derived.Test.YtblopfgnhokocaaS1
namespace Go.Proofs.Ytblopfgnhokocaa
open Go.RowKit P
set_option linter.unusedVariables false
set_option linter.unusedSimpArgs false

/-- The object at ob, its table in block g, holds the sequences L and the values V. -/
structure In (w : World) (ob g n cap : Nat) (T : Tb) (L : List (List Nat)) (V : List Int) : Prop where
  hob : Ob w ob g n cap
  tab : Tab w g n T
  ne : ob ≠ g
  hn : n ≤ 65536
  fok : FOK T n L
  len : V.length = n
  val : ∀ x, x < n → (T (x + 1)).val = V.getD x 0
  rng : ∀ v ∈ V, In64 v
/-- .. with its blocks between lo and hi. -/
def PT (w : World) (lo hi ob : Nat) (L : List (List Nat)) (V : List Int) : Prop := ∃ g n cap T, (lo ≤ ob ∧ ob < hi) ∧ (lo ≤ g ∧ g < hi) ∧ n + 1 ≤ cap ∧ In w ob g n cap T L V
abbrev SSt := Option (List (List Nat) × List Int)
/-- No sequences: nil, or an object that was not made. -/
def NoS (w : World) (lo hi : Nat) (v : Value) : Prop := v = .pointer none ∨ ∃ p, (lo ≤ p ∧ p < hi) ∧ v = .pointer (some ⟨p, 0, none⟩) ∧ w.cell? ⟨p, 0, none⟩ = some (.bool false)
def PSo (w : World) (lo hi : Nat) (v : Value) : SSt → Prop
  | none => NoS w lo hi v
  | some (L, V) => ∃ p, v = .pointer (some ⟨p, 0, none⟩) ∧ PT w lo hi p L V
theorem In.mod {w w' : World} {ob g n cap lo hi : Nat} {T : Tb} {L : List (List Nat)} {V : List Int} (h : In w ob g n cap T L V) (m : Mod lo hi w w') (h1 : ob < lo ∨ hi ≤ ob) (h2 : g < lo ∨ hi ≤ g) : In w' ob g n cap T L V :=
  ⟨h.hob.mod m h1, RTab.mod h.tab m h2, h.ne, h.hn, h.fok, h.len, h.val, h.rng⟩
theorem NoS.mod {w w' : World} {lo hi lo' hi' : Nat} {v : Value} (h : NoS w lo hi v) (m : Mod lo' hi' w w') (ho : hi ≤ lo' ∨ hi' ≤ lo) : NoS w' lo hi v := by
  rcases h with rfl | ⟨p, hl, rfl, h⟩
  · exact .inl rfl
  · exact .inr ⟨p, hl, rfl, (World.cell?_of_block (w := w) (m.block p (World.block_lt_of_cell? w _ h) (by omega))).trans h⟩
theorem PSo.mod {w w' : World} {lo hi lo' hi' : Nat} {v : Value} {o : SSt} (h : PSo w lo hi v o) (m : Mod lo' hi' w w') (ho : hi ≤ lo' ∨ hi' ≤ lo) : PSo w' lo hi v o := by
  rcases o with _ | ⟨L, V⟩
  · exact NoS.mod h m ho
  · obtain ⟨p, rfl, g, n, cap, T, h1, h2, hc, hi⟩ := h
    exact ⟨p, rfl, g, n, cap, T, h1, h2, hc, hi.mod m (by omega) (by omega)⟩
theorem PSo.below {w w' : World} {lo hi : Nat} {v : Value} {o : SSt} (h : PSo w lo hi v o) (m : Below w.heap.size w w') : PSo w' lo hi v o := h.mod (Mod.of_below (lo := 0) (hi := 0) m) (.inr (Nat.zero_le _))
/-- A call that leaves the object in state o. -/
def Sp (w : World) (lo hi : Nat) (v : Value) (o : SSt) (r : Value) (e : Ending) (w' : World) : Prop := e = .returned r ∧ PSo w' lo hi v o ∧ Mod lo hi w w'

/-! ### check -/
theorem check_none {w : World} {lo hi : Nat} {v : Value} (h : NoS w lo hi v) (x : Int) : Calls Try.prog 38 #[v, .int .i64 x] w fun e w' => e = .returned (.tuple #[.int .i32 0, .int .i64 1]) ∧ w = w' := by
  rcases h with rfl | ⟨p, -, rfl, h⟩
  · go_enter Try.func38, Try.ntmps38
    go_wp2
    go_ret2
    exact ⟨rfl, rfl⟩
  · go_enter Try.func38, Try.ntmps38
    go_wp2
    go_ret2
    exact ⟨rfl, rfl⟩
theorem check_bad {w : World} {p g n cap : Nat} (h : Ob w p g n cap) (hn : n ≤ 65536) (x : Int) (hx : ¬ (0 ≤ x ∧ x < n)) : Calls Try.prog 38 #[.pointer (some ⟨p, 0, none⟩), .int .i64 x] w fun e w' => e = .returned (.tuple #[.int .i32 0, .int .i64 3]) ∧ w = w' := by
  have c0 := h.1
  have c1 := h.2
  clear h
  by_cases h0 : x < 0
  · clear hx
    go_enter Try.func38, Try.ntmps38
    go_wp2
    go_ret2
    exact ⟨rfl, rfl⟩
  · have h1 : (n : Int) ≤ x := by omega
    have h2 : decide ((n : Int) ≤ x) = true := by simpa using h1
    have h3 : (0 : Int) ≤ x := by omega
    clear hx h0
    go_enter Try.func38, Try.ntmps38
    go_wp2
    go_ret2
    exact ⟨rfl, rfl⟩
theorem check_ok {w : World} {p g n cap : Nat} (h : Ob w p g n cap) (hn : n ≤ 65536) (x : Int) (y : Nat) (hy : (y : Int) = x + 1) (h0 : 0 ≤ x) (hx : x < n) : Calls Try.prog 38 #[.pointer (some ⟨p, 0, none⟩), .int .i64 x] w fun e w' => e = .returned (.tuple #[.int .i32 y, .int .i64 0]) ∧ w = w' := by
  have c0 := h.1
  have c1 := h.2
  have HY := Lib.hid hy
  have h1 : ¬ x < 0 := by omega
  have h2 : ¬ (n : Int) ≤ x := by omega
  clear h hy
  go_enter Try.func38, Try.ntmps38
  go_wp2
  go_ret2
  refine ⟨?_, rfl⟩
  show Ending.returned (.tuple #[.int .i32 (x + 1), .int .i64 0]) = _
  rw [HY.out]

/-! ### splay, of all sequences -/
/-- The node x (1 more in the table) is the root of its tree. -/
def Rt (T : Tb) (L : List (List Nat)) (x : Nat) : Prop := (∃ a b, TrL T (up1 (lst L x)) (.node a (x + 1) b)) ∧ (T (x + 1)).turn = false
theorem splayF {w : World} {ob g n cap : Nat} {T : Tb} {L : List (List Nat)} {V : List Int} (h : In w ob g n cap T L V) (x : Nat) (hx : x < n) (y : Nat) (hy : y = x + 1) :
    Calls Try.prog 39 #[.pointer (some ⟨ob, 0, none⟩), .int .i32 y] w fun e w' => e = .returned (.tuple #[]) ∧ ∃ T', In w' ob g n cap T' L V ∧ Mod g (g + 1) w w' ∧ Rt T' L x ∧ ∀ z, z ∉ up1 (lst L x) → T' z = T z := by
  subst hy
  obtain ⟨h1, h2⟩ := h.fok.part.lst hx
  obtain ⟨_, u, hu⟩ := h.fok.1 _ h1
  have hb : Bd n (up1 (lst L x)) := by
    intro y hy
    obtain ⟨z, hz, rfl⟩ := mem_up1.1 hy
    have := h.fok.part.lt h1 hz
    omega
  have hv : ∀ y ∈ up1 (lst L x), In64 (T y).val := by
    intro y hy
    obtain ⟨z, hz, rfl⟩ := mem_up1.1 hy
    rw [h.val z (h.fok.part.lt h1 hz)]
    exact getD_in64 h.rng z
  refine (splay_any h.hob h.tab h.ne h.hn hu hb hv (x + 1) (up1_mem.2 h2)).mono ?_
  rintro e w' ⟨rfl, T', t1, m, ⟨a, b, tr⟩, tt, vv, far⟩
  refine ⟨rfl, T', ⟨h.hob.mod m (by have := h.ne; omega), t1, h.ne, h.hn, ?_, h.len, fun z hz => by rw [vv]; exact h.val z hz, h.rng⟩, m, ⟨⟨a, b, tr⟩, tt⟩, far⟩
  have p := h.fok.part.others hx
  have := h.fok.change (A := [lst L x]) (B := [lst L x]) (R := others L x) p (fun l hl => by rw [List.mem_singleton] at hl; subst hl; exact ⟨(h.fok.1 _ h1).1, _, tr⟩) (List.Perm.refl _) (fun y hy => far y (by simpa using hy))
  exact this.perm p.symm
theorem In.sp {w w' : World} {lo hi ob g n cap : Nat} {T : Tb} {L : List (List Nat)} {V : List Int} {r : Value} (h : In w' ob g n cap T L V) (h1 : lo ≤ ob ∧ ob < hi) (h2 : lo ≤ g ∧ g < hi) (hc : n + 1 ≤ cap) (m : Mod g (g + 1) w w') : Sp w lo hi (.pointer (some ⟨ob, 0, none⟩)) (some (L, V)) r (.returned r) w' :=
  ⟨rfl, ⟨ob, rfl, g, n, cap, T, h1, h2, hc, h⟩, m.mono h2.1 (by omega)⟩

theorem P.Part.len_le {n : Nat} {L : List (List Nat)} (h : Part n L) {l : List Nat} (hl : l ∈ L) : l.length ≤ n := by
  have h1 := (List.sublist_flatten_of_mem hl).length_le
  have h2 := h.1.length_eq
  rw [List.length_range] at h2
  omega
theorem idx_up1 {l s t : List Nat} {x : Nat} (h : up1 l = s ++ (x + 1) :: t) (nd : l.Nodup) : l.idxOf x = s.length := by
  have hl : s.length < l.length := by have := congrArg List.length h; simp [up1] at this; omega
  have hx : l[s.length] = x := by
    have h1 : (up1 l)[s.length]? = some (x + 1) := by rw [h]; simp
    unfold up1 at h1
    rw [List.getElem?_map, List.getElem?_eq_getElem hl] at h1
    simpa using h1
  have := nd.idxOf_getElem s.length hl
  rw [hx] at this
  exact this
theorem least_up1 {T : Tb} {V : List Int} {n m : Nat} {l : List Nat} (h : IsMin T m (up1 l)) (hv : ∀ x ∈ l, (T (x + 1)).val = V.getD x 0) (hl : l ≠ []) : m = minN V l + 1 := by
  obtain ⟨h1, h2⟩ := h
  obtain ⟨z, hz, rfl⟩ := mem_up1.1 h1
  have : LeastN V z l := by
    refine ⟨hz, fun y hy => ?_⟩
    have := h2 (y + 1) (up1_mem.2 hy)
    rw [hv z hz, hv y hy] at this
    omega
  rw [least_uniq this (minN_least hl)]
theorem tsum_up1 {T : Tb} {V : List Int} {l : List Nat} (hv : ∀ x ∈ l, (T (x + 1)).val = V.getD x 0) : tsum T (up1 l) = sumN V l := by
  unfold tsum sumN up1
  rw [List.map_map]
  congr 1
  exact List.map_congr_left (fun x hx => hv x hx)
/-! ### none, and what is no node -/
theorem set_none {w : World} {lo hi : Nat} {v : Value} (h : NoS w lo hi v) (x z : Int) : Calls Try.prog 24 #[v, .int .i64 x, .int .i64 z] w (Sp w lo hi v none (.int .i64 1)) := by
  have HC := Lib.hid (check_none h x)
  have FIN : Hid (Sp w lo hi v none (.int .i64 1) (.returned (.int .i64 1)) w) := ⟨rfl, h, Mod.refl _ _ _⟩
  clear h
  go_enter Try.func24, Try.ntmps24
  go_wp2_with fail
  refine HC.out.mono ?_
  rintro e w' ⟨rfl, rfl⟩
  go_wp2
  go_ret
  exact FIN.out
theorem set_bad {w : World} {lo hi p : Nat} {L : List (List Nat)} {V : List Int} (h : PT w lo hi p L V) (x z : Int) (hx : ¬ (0 ≤ x ∧ x < V.length)) : Calls Try.prog 24 #[.pointer (some ⟨p, 0, none⟩), .int .i64 x, .int .i64 z] w (Sp w lo hi (.pointer (some ⟨p, 0, none⟩)) (some (L, V)) (.int .i64 3)) := by
  have FIN : Hid (Sp w lo hi (.pointer (some ⟨p, 0, none⟩)) (some (L, V)) (.int .i64 3) (.returned (.int .i64 3)) w) := ⟨rfl, ⟨p, rfl, h⟩, Mod.refl _ _ _⟩
  obtain ⟨g, n, cap, T, h1, h2, hc, hi⟩ := h
  have HC := Lib.hid (check_bad hi.hob hi.hn x (by rw [← hi.len]; exact hx))
  clear hi hx
  go_enter Try.func24, Try.ntmps24
  go_wp2_with fail
  refine HC.out.mono ?_
  rintro e w' ⟨rfl, rfl⟩
  go_wp2
  go_ret
  exact FIN.out
theorem value_none {w : World} {lo hi : Nat} {v : Value} (h : NoS w lo hi v) (x : Int) : Calls Try.prog 30 #[v, .int .i64 x] w (Sp w lo hi v none (.int .i64 0)) := by
  have HC := Lib.hid (check_none h x)
  have FIN : Hid (Sp w lo hi v none (.int .i64 0) (.returned (.int .i64 0)) w) := ⟨rfl, h, Mod.refl _ _ _⟩
  clear h
  go_enter Try.func30, Try.ntmps30
  go_wp2_with fail
  refine HC.out.mono ?_
  rintro e w' ⟨rfl, rfl⟩
  go_wp2
  go_ret
  exact FIN.out
theorem value_bad {w : World} {lo hi p : Nat} {L : List (List Nat)} {V : List Int} (h : PT w lo hi p L V) (x : Int) (hx : ¬ (0 ≤ x ∧ x < V.length)) : Calls Try.prog 30 #[.pointer (some ⟨p, 0, none⟩), .int .i64 x] w (Sp w lo hi (.pointer (some ⟨p, 0, none⟩)) (some (L, V)) (.int .i64 0)) := by
  have FIN : Hid (Sp w lo hi (.pointer (some ⟨p, 0, none⟩)) (some (L, V)) (.int .i64 0) (.returned (.int .i64 0)) w) := ⟨rfl, ⟨p, rfl, h⟩, Mod.refl _ _ _⟩
  obtain ⟨g, n, cap, T, h1, h2, hc, hi⟩ := h
  have HC := Lib.hid (check_bad hi.hob hi.hn x (by rw [← hi.len]; exact hx))
  clear hi hx
  go_enter Try.func30, Try.ntmps30
  go_wp2_with fail
  refine HC.out.mono ?_
  rintro e w' ⟨rfl, rfl⟩
  go_wp2
  go_ret
  exact FIN.out
theorem split_none {w : World} {lo hi : Nat} {v : Value} (h : NoS w lo hi v) (x : Int) : Calls Try.prog 20 #[v, .int .i64 x] w (Sp w lo hi v none (.int .i64 1)) := by
  have HC := Lib.hid (check_none h x)
  have FIN : Hid (Sp w lo hi v none (.int .i64 1) (.returned (.int .i64 1)) w) := ⟨rfl, h, Mod.refl _ _ _⟩
  clear h
  go_enter Try.func20, Try.ntmps20
  go_wp2_with fail
  refine HC.out.mono ?_
  rintro e w' ⟨rfl, rfl⟩
  go_wp2
  go_ret
  exact FIN.out
theorem split_bad {w : World} {lo hi p : Nat} {L : List (List Nat)} {V : List Int} (h : PT w lo hi p L V) (x : Int) (hx : ¬ (0 ≤ x ∧ x < V.length)) : Calls Try.prog 20 #[.pointer (some ⟨p, 0, none⟩), .int .i64 x] w (Sp w lo hi (.pointer (some ⟨p, 0, none⟩)) (some (L, V)) (.int .i64 3)) := by
  have FIN : Hid (Sp w lo hi (.pointer (some ⟨p, 0, none⟩)) (some (L, V)) (.int .i64 3) (.returned (.int .i64 3)) w) := ⟨rfl, ⟨p, rfl, h⟩, Mod.refl _ _ _⟩
  obtain ⟨g, n, cap, T, h1, h2, hc, hi⟩ := h
  have HC := Lib.hid (check_bad hi.hob hi.hn x (by rw [← hi.len]; exact hx))
  clear hi hx
  go_enter Try.func20, Try.ntmps20
  go_wp2_with fail
  refine HC.out.mono ?_
  rintro e w' ⟨rfl, rfl⟩
  go_wp2
  go_ret
  exact FIN.out
theorem reverse_none {w : World} {lo hi : Nat} {v : Value} (h : NoS w lo hi v) (x : Int) : Calls Try.prog 26 #[v, .int .i64 x] w (Sp w lo hi v none (.int .i64 1)) := by
  have HC := Lib.hid (check_none h x)
  have FIN : Hid (Sp w lo hi v none (.int .i64 1) (.returned (.int .i64 1)) w) := ⟨rfl, h, Mod.refl _ _ _⟩
  clear h
  go_enter Try.func26, Try.ntmps26
  go_wp2_with fail
  refine HC.out.mono ?_
  rintro e w' ⟨rfl, rfl⟩
  go_wp2
  go_ret
  exact FIN.out
theorem reverse_bad {w : World} {lo hi p : Nat} {L : List (List Nat)} {V : List Int} (h : PT w lo hi p L V) (x : Int) (hx : ¬ (0 ≤ x ∧ x < V.length)) : Calls Try.prog 26 #[.pointer (some ⟨p, 0, none⟩), .int .i64 x] w (Sp w lo hi (.pointer (some ⟨p, 0, none⟩)) (some (L, V)) (.int .i64 3)) := by
  have FIN : Hid (Sp w lo hi (.pointer (some ⟨p, 0, none⟩)) (some (L, V)) (.int .i64 3) (.returned (.int .i64 3)) w) := ⟨rfl, ⟨p, rfl, h⟩, Mod.refl _ _ _⟩
  obtain ⟨g, n, cap, T, h1, h2, hc, hi⟩ := h
  have HC := Lib.hid (check_bad hi.hob hi.hn x (by rw [← hi.len]; exact hx))
  clear hi hx
  go_enter Try.func26, Try.ntmps26
  go_wp2_with fail
  refine HC.out.mono ?_
  rintro e w' ⟨rfl, rfl⟩
  go_wp2
  go_ret
  exact FIN.out
theorem pos_none {w : World} {lo hi : Nat} {v : Value} (h : NoS w lo hi v) (x : Int) : Calls Try.prog 17 #[v, .int .i64 x] w (Sp w lo hi v none (.int .i64 0)) := by
  have HC := Lib.hid (check_none h x)
  have FIN : Hid (Sp w lo hi v none (.int .i64 0) (.returned (.int .i64 0)) w) := ⟨rfl, h, Mod.refl _ _ _⟩
  clear h
  go_enter Try.func17, Try.ntmps17
  go_wp2_with fail
  refine HC.out.mono ?_
  rintro e w' ⟨rfl, rfl⟩
  go_wp2
  go_ret
  exact FIN.out
theorem pos_bad {w : World} {lo hi p : Nat} {L : List (List Nat)} {V : List Int} (h : PT w lo hi p L V) (x : Int) (hx : ¬ (0 ≤ x ∧ x < V.length)) : Calls Try.prog 17 #[.pointer (some ⟨p, 0, none⟩), .int .i64 x] w (Sp w lo hi (.pointer (some ⟨p, 0, none⟩)) (some (L, V)) (.int .i64 0)) := by
  have FIN : Hid (Sp w lo hi (.pointer (some ⟨p, 0, none⟩)) (some (L, V)) (.int .i64 0) (.returned (.int .i64 0)) w) := ⟨rfl, ⟨p, rfl, h⟩, Mod.refl _ _ _⟩
  obtain ⟨g, n, cap, T, h1, h2, hc, hi⟩ := h
  have HC := Lib.hid (check_bad hi.hob hi.hn x (by rw [← hi.len]; exact hx))
  clear hi hx
  go_enter Try.func17, Try.ntmps17
  go_wp2_with fail
  refine HC.out.mono ?_
  rintro e w' ⟨rfl, rfl⟩
  go_wp2
  go_ret
  exact FIN.out
theorem len_none {w : World} {lo hi : Nat} {v : Value} (h : NoS w lo hi v) (x : Int) : Calls Try.prog 15 #[v, .int .i64 x] w (Sp w lo hi v none (.int .i64 0)) := by
  have HC := Lib.hid (check_none h x)
  have FIN : Hid (Sp w lo hi v none (.int .i64 0) (.returned (.int .i64 0)) w) := ⟨rfl, h, Mod.refl _ _ _⟩
  clear h
  go_enter Try.func15, Try.ntmps15
  go_wp2_with fail
  refine HC.out.mono ?_
  rintro e w' ⟨rfl, rfl⟩
  go_wp2
  go_ret
  exact FIN.out
theorem len_bad {w : World} {lo hi p : Nat} {L : List (List Nat)} {V : List Int} (h : PT w lo hi p L V) (x : Int) (hx : ¬ (0 ≤ x ∧ x < V.length)) : Calls Try.prog 15 #[.pointer (some ⟨p, 0, none⟩), .int .i64 x] w (Sp w lo hi (.pointer (some ⟨p, 0, none⟩)) (some (L, V)) (.int .i64 0)) := by
  have FIN : Hid (Sp w lo hi (.pointer (some ⟨p, 0, none⟩)) (some (L, V)) (.int .i64 0) (.returned (.int .i64 0)) w) := ⟨rfl, ⟨p, rfl, h⟩, Mod.refl _ _ _⟩
  obtain ⟨g, n, cap, T, h1, h2, hc, hi⟩ := h
  have HC := Lib.hid (check_bad hi.hob hi.hn x (by rw [← hi.len]; exact hx))
  clear hi hx
  go_enter Try.func15, Try.ntmps15
  go_wp2_with fail
  refine HC.out.mono ?_
  rintro e w' ⟨rfl, rfl⟩
  go_wp2
  go_ret
  exact FIN.out
theorem min_none {w : World} {lo hi : Nat} {v : Value} (h : NoS w lo hi v) (x : Int) : Calls Try.prog 32 #[v, .int .i64 x] w (Sp w lo hi v none (.tuple #[.int .i64 0, .bool false])) := by
  have HC := Lib.hid (check_none h x)
  have FIN : Hid (Sp w lo hi v none (.tuple #[.int .i64 0, .bool false]) (.returned (.tuple #[.int .i64 0, .bool false])) w) := ⟨rfl, h, Mod.refl _ _ _⟩
  clear h
  go_enter Try.func32, Try.ntmps32
  go_wp2_with fail
  refine HC.out.mono ?_
  rintro e w' ⟨rfl, rfl⟩
  go_wp2
  go_ret2
  exact FIN.out
theorem min_bad {w : World} {lo hi p : Nat} {L : List (List Nat)} {V : List Int} (h : PT w lo hi p L V) (x : Int) (hx : ¬ (0 ≤ x ∧ x < V.length)) : Calls Try.prog 32 #[.pointer (some ⟨p, 0, none⟩), .int .i64 x] w (Sp w lo hi (.pointer (some ⟨p, 0, none⟩)) (some (L, V)) (.tuple #[.int .i64 0, .bool false])) := by
  have FIN : Hid (Sp w lo hi (.pointer (some ⟨p, 0, none⟩)) (some (L, V)) (.tuple #[.int .i64 0, .bool false]) (.returned (.tuple #[.int .i64 0, .bool false])) w) := ⟨rfl, ⟨p, rfl, h⟩, Mod.refl _ _ _⟩
  obtain ⟨g, n, cap, T, h1, h2, hc, hi⟩ := h
  have HC := Lib.hid (check_bad hi.hob hi.hn x (by rw [← hi.len]; exact hx))
  clear hi hx
  go_enter Try.func32, Try.ntmps32
  go_wp2_with fail
  refine HC.out.mono ?_
  rintro e w' ⟨rfl, rfl⟩
  go_wp2
  go_ret2
  exact FIN.out
theorem sum_none {w : World} {lo hi : Nat} {v : Value} (h : NoS w lo hi v) (x : Int) : Calls Try.prog 25 #[v, .int .i64 x] w (Sp w lo hi v none (.tuple #[.int .i64 0, .int .i64 1])) := by
  have HC := Lib.hid (check_none h x)
  have FIN : Hid (Sp w lo hi v none (.tuple #[.int .i64 0, .int .i64 1]) (.returned (.tuple #[.int .i64 0, .int .i64 1])) w) := ⟨rfl, h, Mod.refl _ _ _⟩
  clear h
  go_enter Try.func25, Try.ntmps25
  go_wp2_with fail
  refine HC.out.mono ?_
  rintro e w' ⟨rfl, rfl⟩
  go_wp2
  go_ret2
  exact FIN.out
theorem sum_bad {w : World} {lo hi p : Nat} {L : List (List Nat)} {V : List Int} (h : PT w lo hi p L V) (x : Int) (hx : ¬ (0 ≤ x ∧ x < V.length)) : Calls Try.prog 25 #[.pointer (some ⟨p, 0, none⟩), .int .i64 x] w (Sp w lo hi (.pointer (some ⟨p, 0, none⟩)) (some (L, V)) (.tuple #[.int .i64 0, .int .i64 3])) := by
  have FIN : Hid (Sp w lo hi (.pointer (some ⟨p, 0, none⟩)) (some (L, V)) (.tuple #[.int .i64 0, .int .i64 3]) (.returned (.tuple #[.int .i64 0, .int .i64 3])) w) := ⟨rfl, ⟨p, rfl, h⟩, Mod.refl _ _ _⟩
  obtain ⟨g, n, cap, T, h1, h2, hc, hi⟩ := h
  have HC := Lib.hid (check_bad hi.hob hi.hn x (by rw [← hi.len]; exact hx))
  clear hi hx
  go_enter Try.func25, Try.ntmps25
  go_wp2_with fail
  refine HC.out.mono ?_
  rintro e w' ⟨rfl, rfl⟩
  go_wp2
  go_ret2
  exact FIN.out
theorem list_none {w : World} {lo hi : Nat} {v : Value} (h : NoS w lo hi v) (x : Int) : Calls Try.prog 14 #[v, .int .i64 x] w (Sp w lo hi v none (.slice none 0 0)) := by
  have HC := Lib.hid (check_none h x)
  have FIN : Hid (Sp w lo hi v none (.slice none 0 0) (.returned (.slice none 0 0)) w) := ⟨rfl, h, Mod.refl _ _ _⟩
  clear h
  go_enter Try.func14, Try.ntmps14
  go_wp2_with fail
  refine HC.out.mono ?_
  rintro e w' ⟨rfl, rfl⟩
  go_wp2
  go_ret
  exact FIN.out
theorem list_bad {w : World} {lo hi p : Nat} {L : List (List Nat)} {V : List Int} (h : PT w lo hi p L V) (x : Int) (hx : ¬ (0 ≤ x ∧ x < V.length)) : Calls Try.prog 14 #[.pointer (some ⟨p, 0, none⟩), .int .i64 x] w (Sp w lo hi (.pointer (some ⟨p, 0, none⟩)) (some (L, V)) (.slice none 0 0)) := by
  have FIN : Hid (Sp w lo hi (.pointer (some ⟨p, 0, none⟩)) (some (L, V)) (.slice none 0 0) (.returned (.slice none 0 0)) w) := ⟨rfl, ⟨p, rfl, h⟩, Mod.refl _ _ _⟩
  obtain ⟨g, n, cap, T, h1, h2, hc, hi⟩ := h
  have HC := Lib.hid (check_bad hi.hob hi.hn x (by rw [← hi.len]; exact hx))
  clear hi hx
  go_enter Try.func14, Try.ntmps14
  go_wp2_with fail
  refine HC.out.mono ?_
  rintro e w' ⟨rfl, rfl⟩
  go_wp2
  go_ret
  exact FIN.out
/-! ### of a node -/
set_option maxRecDepth 100000 in
set_option maxHeartbeats 1000000 in
theorem value_ok {w : World} {lo hi p : Nat} {L : List (List Nat)} {V : List Int} (h : PT w lo hi p L V) (x : Int) (h0 : 0 ≤ x) (hxV : x < V.length) : Calls Try.prog 30 #[.pointer (some ⟨p, 0, none⟩), .int .i64 x] w (Sp w lo hi (.pointer (some ⟨p, 0, none⟩)) (some (L, V)) (.int .i64 (V.getD x.toNat 0))) := by
  obtain ⟨g, n, cap, T, l1, l2, hcap, hI⟩ := h
  have hxn : x < n := by rw [← hI.len]; exact hxV
  obtain ⟨y, hy⟩ : ∃ y, y = x.toNat + 1 := ⟨_, rfl⟩
  have hyn : y ≤ n := by omega
  have hn := hI.hn
  have HC := Lib.hid (check_ok hI.hob hI.hn x y (by omega) h0 hxn)
  have HS := Lib.hid (splayF hI x.toNat (by omega) y hy)
  have HI := Lib.hid hI
  have HX := Lib.hid (And.intro hxV hxn)
  have HY := Lib.hid hy
  have LL := Lib.hid (And.intro l1 (And.intro l2 hcap))
  have c1 := hI.hob.2
  have npg := hI.ne
  have npg' : ¬ g = p := fun e => npg e.symm
  clear hI hxV hxn hy l1 l2 hcap
  have cv : w.cell? ⟨g, y * 9 + 6, none⟩ = some (.int .i64 (V.getD x.toNat 0)) := RTab.cval HI.out.tab hyn (by rw [HY.out]; exact HI.out.val _ (by have := HX.out; omega))
  obtain ⟨vv, hvv⟩ : ∃ v, V.getD x.toNat 0 = v := ⟨_, rfl⟩
  rw [hvv] at cv ⊢
  clear hvv
  go_enter Try.func30, Try.ntmps30
  go_wp2_with fail
  refine HC.out.mono ?_
  rintro e w' ⟨rfl, rfl⟩
  go_wp2_with fail
  go_wp2
  go_ret
  exact HI.out.sp LL.out.1 LL.out.2.1 LL.out.2.2 (Mod.refl _ _ _)
set_option maxRecDepth 100000 in
set_option maxHeartbeats 1000000 in
theorem len_ok {w : World} {lo hi p : Nat} {L : List (List Nat)} {V : List Int} (h : PT w lo hi p L V) (x : Int) (h0 : 0 ≤ x) (hxV : x < V.length) : Calls Try.prog 15 #[.pointer (some ⟨p, 0, none⟩), .int .i64 x] w (Sp w lo hi (.pointer (some ⟨p, 0, none⟩)) (some (L, V)) (.int .i64 (lst L x.toNat).length)) := by
  obtain ⟨g, n, cap, T, l1, l2, hcap, hI⟩ := h
  have hxn : x < n := by rw [← hI.len]; exact hxV
  obtain ⟨y, hy⟩ : ∃ y, y = x.toNat + 1 := ⟨_, rfl⟩
  have hyn : y ≤ n := by omega
  have hn := hI.hn
  have HC := Lib.hid (check_ok hI.hob hI.hn x y (by omega) h0 hxn)
  have HS := Lib.hid (splayF hI x.toNat (by omega) y hy)
  have HI := Lib.hid hI
  have HX := Lib.hid (And.intro hxV hxn)
  have HY := Lib.hid hy
  have LL := Lib.hid (And.intro l1 (And.intro l2 hcap))
  have c1 := hI.hob.2
  have npg := hI.ne
  have npg' : ¬ g = p := fun e => npg e.symm
  clear hI hxV hxn hy l1 l2 hcap
  go_enter Try.func15, Try.ntmps15
  go_wp2_with fail
  refine HC.out.mono ?_
  rintro e w' ⟨rfl, rfl⟩
  go_wp2_with fail
  refine HS.out.mono ?_
  rintro e w2 ⟨rfl, T2, i2, m2, r2, f2⟩
  have I2 := Lib.hid i2
  have M2 := Lib.hid m2
  have R2 := Lib.hid r2
  have c1 := i2.hob.2
  have HT2 := Lib.hid i2.tab
  have cs : w2.cell? ⟨g, y * 9 + 3, none⟩ = some (.int .i32 ((lst L x.toNat).length : Nat)) := by
    obtain ⟨⟨a, b, tr⟩, tt⟩ := R2.out
    refine RTab.csize HT2.out hyn ?_
    rw [HY.out, (root_kids tr).2.2.2.2.1]; simp [up1]
  have hsz : (lst L x.toNat).length ≤ 65536 := by
    have hp := i2.fok.part
    have := hp.len_le (hp.lst (show x.toNat < n by have := HX.out; omega)).1
    omega
  obtain ⟨i, hi⟩ : ∃ i, (lst L x.toNat).length = i := ⟨_, rfl⟩
  rw [hi] at cs hsz
  have HE := Lib.hid hi
  clear i2 m2 r2 f2 HS hi
  go_wp2
  go_ret
  rw [HE.out]
  exact I2.out.sp LL.out.1 LL.out.2.1 LL.out.2.2 M2.out
set_option maxRecDepth 100000 in
set_option maxHeartbeats 1000000 in
theorem pos_ok {w : World} {lo hi p : Nat} {L : List (List Nat)} {V : List Int} (h : PT w lo hi p L V) (x : Int) (h0 : 0 ≤ x) (hxV : x < V.length) : Calls Try.prog 17 #[.pointer (some ⟨p, 0, none⟩), .int .i64 x] w (Sp w lo hi (.pointer (some ⟨p, 0, none⟩)) (some (L, V)) (.int .i64 ((lst L x.toNat).idxOf x.toNat))) := by
  obtain ⟨g, n, cap, T, l1, l2, hcap, hI⟩ := h
  have hxn : x < n := by rw [← hI.len]; exact hxV
  obtain ⟨y, hy⟩ : ∃ y, y = x.toNat + 1 := ⟨_, rfl⟩
  have hyn : y ≤ n := by omega
  have hn := hI.hn
  have HC := Lib.hid (check_ok hI.hob hI.hn x y (by omega) h0 hxn)
  have HS := Lib.hid (splayF hI x.toNat (by omega) y hy)
  have HI := Lib.hid hI
  have HX := Lib.hid (And.intro hxV hxn)
  have HY := Lib.hid hy
  have LL := Lib.hid (And.intro l1 (And.intro l2 hcap))
  have c1 := hI.hob.2
  have npg := hI.ne
  have npg' : ¬ g = p := fun e => npg e.symm
  clear hI hxV hxn hy l1 l2 hcap
  go_enter Try.func17, Try.ntmps17
  go_wp2_with fail
  refine HC.out.mono ?_
  rintro e w' ⟨rfl, rfl⟩
  go_wp2_with fail
  refine HS.out.mono ?_
  rintro e w2 ⟨rfl, T2, i2, m2, r2, f2⟩
  have I2 := Lib.hid i2
  have M2 := Lib.hid m2
  have R2 := Lib.hid r2
  have c1 := i2.hob.2
  have HT2 := Lib.hid i2.tab
  have hp := i2.fok.part
  have hlx := hp.lst (show x.toNat < n by have := HX.out; omega)
  obtain ⟨⟨a, b, tr⟩, tt⟩ := r2
  have hi1 : (lst L x.toNat).idxOf x.toNat = a.nodes.length := by
    rw [idx_up1 (root_seq tr tt) (hp.lnodup hlx.1), seq_len]
  have hsz : (lst L x.toNat).idxOf x.toNat ≤ 65536 := by
    have := List.idxOf_lt_length_of_mem hlx.2
    have := hp.len_le hlx.1
    omega
  obtain ⟨k0, hk0⟩ : ∃ k, (T2 y).k0 = k := ⟨_, rfl⟩
  have ck : w2.cell? ⟨g, y * 9, none⟩ = some (.int .i32 k0) := RTab.ck0 HT2.out hyn hk0
  have hk0' : k0 = a.root := by rw [← hk0, HY.out]; exact (root_kids tr).1
  have hkn : k0 ≤ n := by
    rw [hk0']
    by_cases e : a.root = 0
    · omega
    · have hm : a.root ∈ up1 (lst L x.toNat) := tr.nodes.mem_iff.2 (by simp [Tr.nodes, Tr.root_mem e])
      obtain ⟨z, hz, e2⟩ := mem_up1.1 hm
      have := hp.lt hlx.1 hz
      omega
  have cs : w2.cell? ⟨g, k0 * 9 + 3, none⟩ = some (.int .i32 ((lst L x.toNat).idxOf x.toNat : Nat)) := by
    refine RTab.csize HT2.out hkn ?_
    rw [hi1, hk0']
    exact size_root ((root_kids tr).1 ▸ tr.1.2.2.2.2.1) i2.fok.2.2
  obtain ⟨i, hi⟩ : ∃ i, (lst L x.toNat).idxOf x.toNat = i := ⟨_, rfl⟩
  have j0 : (0 : Int) ≤ k0 := by omega
  have j1 : (k0 : Int) < (n : Int) + 1 := by omega
  have j2 : (0 : Int) ≤ y := by omega
  have j3 : (y : Int) < (n : Int) + 1 := by omega
  rw [hi] at cs hsz
  have HE := Lib.hid hi
  clear i2 m2 f2 HS hk0 hk0' hi hi1 hp hlx tr tt
  go_wp2_with fail
  go_quiet (fail)
  go_wp2
  go_ret
  rw [HE.out]
  exact (I2.out.mod (Mod.drewN (Mod.refl 0 0 _) _) (.inr (Nat.zero_le _)) (.inr (Nat.zero_le _))).sp LL.out.1 LL.out.2.1 LL.out.2.2 (M2.out.drewN _)
set_option maxRecDepth 100000 in
set_option maxHeartbeats 1000000 in
theorem min_ok {w : World} {lo hi p : Nat} {L : List (List Nat)} {V : List Int} (h : PT w lo hi p L V) (x : Int) (h0 : 0 ≤ x) (hxV : x < V.length) : Calls Try.prog 32 #[.pointer (some ⟨p, 0, none⟩), .int .i64 x] w (Sp w lo hi (.pointer (some ⟨p, 0, none⟩)) (some (L, V)) (.tuple #[.int .i64 (minN V (lst L x.toNat)), .bool true])) := by
  obtain ⟨g, n, cap, T, l1, l2, hcap, hI⟩ := h
  have hxn : x < n := by rw [← hI.len]; exact hxV
  obtain ⟨y, hy⟩ : ∃ y, y = x.toNat + 1 := ⟨_, rfl⟩
  have hyn : y ≤ n := by omega
  have hn := hI.hn
  have HC := Lib.hid (check_ok hI.hob hI.hn x y (by omega) h0 hxn)
  have HS := Lib.hid (splayF hI x.toNat (by omega) y hy)
  have HI := Lib.hid hI
  have HX := Lib.hid (And.intro hxV hxn)
  have HY := Lib.hid hy
  have LL := Lib.hid (And.intro l1 (And.intro l2 hcap))
  have c1 := hI.hob.2
  have npg := hI.ne
  have npg' : ¬ g = p := fun e => npg e.symm
  clear hI hxV hxn hy l1 l2 hcap
  go_enter Try.func32, Try.ntmps32
  go_wp2_with fail
  refine HC.out.mono ?_
  rintro e w' ⟨rfl, rfl⟩
  go_wp2_with fail
  refine HS.out.mono ?_
  rintro e w2 ⟨rfl, T2, i2, m2, r2, f2⟩
  have I2 := Lib.hid i2
  have M2 := Lib.hid m2
  have R2 := Lib.hid r2
  have c1 := i2.hob.2
  have HT2 := Lib.hid i2.tab
  have hp := i2.fok.part
  have hlx := hp.lst (show x.toNat < n by have := HX.out; omega)
  obtain ⟨⟨a, b, tr⟩, tt⟩ := r2
  have hm := least_up1 (n := n) (root_kids tr).2.2.2.2.2.2 (fun z hz => i2.val z (hp.lt hlx.1 hz)) (hp.2 _ hlx.1)
  have hmn : minN V (lst L x.toNat) < 65536 := by
    have := (minN_least (V := V) (hp.2 _ hlx.1)).1
    have := hp.lt hlx.1 this
    omega
  obtain ⟨k, hk⟩ : ∃ k, minN V (lst L x.toNat) = k := ⟨_, rfl⟩
  rw [hk] at hm hmn
  have HE := Lib.hid hk
  have cs : w2.cell? ⟨g, y * 9 + 4, none⟩ = some (.int .i32 ((k + 1 : Nat))) := RTab.cmn HT2.out hyn (by rw [HY.out]; exact hm)
  rw [show ((k + 1 : Nat) : Int) = (k : Int) + 1 by omega] at cs
  clear i2 m2 f2 HS hk hm hp hlx tr tt
  go_wp2
  go_ret2
  rw [HE.out]
  exact I2.out.sp LL.out.1 LL.out.2.1 LL.out.2.2 M2.out
end Go.Proofs.Ytblopfgnhokocaa

/- THE CONTRACTS of package histo: valid, Bucket, Counts, Bounds, Total, Add. -/
import Derived.Test.YtpfdoifkimjlbaaH
import Derived.Test.YtpfdoifkimjlbaaC1
import Derived.Test.YtpfdoifkimjlbaaG
import Derived.LoopTactic
namespace Go.Proofs.Ytpfdoifkimjlbaa
open Go.RowKit H
set_option linter.unusedVariables false
set_option linter.unusedSimpArgs false

/-- A histogram of the program in memory, its blocks between lo and hi: bounds, counts. -/
def PH (w : World) (lo hi p : Nat) (B C : List Int) : Prop :=
  ∃ cb bb a cp cap ex, (lo ≤ p ∧ p < hi) ∧ ((lo ≤ cb ∧ cb < hi) ∧ cap = C.length + ex.length) ∧ (0 < B.length → (lo ≤ bb ∧ bb < hi) ∧ bb ≠ cb ∧ bb ≠ p) ∧
    Bk w p 63 [.bool true, .slice a B.length cp, .slice (some ⟨cb, 0, none⟩) C.length cap, .int .i64 C.sum] ∧ Row w 2 bb a B.length cp B ∧ Bk w cb 2 (C.map (Value.int .i64) ++ ex)
/-- A pointer at no histogram. -/
def NoH (w : World) (lo hi : Nat) (v : Value) : Prop := v = .pointer none ∨ ∃ p, (lo ≤ p ∧ p < hi) ∧ v = .pointer (some ⟨p, 0, none⟩) ∧ w.cell? ⟨p, 0, none⟩ = some (.bool false)
def PHo (w : World) (lo hi : Nat) (v : Value) : H.St → Prop
  | none => NoH w lo hi v
  | some (B, C) => Fine B C ∧ ∃ p, v = .pointer (some ⟨p, 0, none⟩) ∧ PH w lo hi p B C

theorem PH.mod {w w' : World} {lo hi p lo' hi' : Nat} {B C : List Int} (h : PH w lo hi p B C) (m : Mod lo' hi' w w') (ho : hi ≤ lo' ∨ hi' ≤ lo) : PH w' lo hi p B C := by
  obtain ⟨cb, bb, a, cp, cap, ex, h1, h2, h3, b1, b2, b3⟩ := h
  exact ⟨cb, bb, a, cp, cap, ex, h1, h2, h3, b1.mod m (by omega), b2.mod m (fun hn => by have := (h3 hn).1; omega), b3.mod m (by omega)⟩
theorem PH.below {w w' : World} {lo hi p : Nat} {B C : List Int} (h : PH w lo hi p B C) (m : Below w.heap.size w w') : PH w' lo hi p B C :=
  h.mod (Mod.of_below (lo := 0) (hi := 0) m) (.inr (Nat.zero_le _))

theorem valid_yes (p : Nat) (w : World) (h : w.cell? ⟨p, 0, none⟩ = some (.bool true)) :
    Calls Try.prog 34 #[.pointer (some ⟨p, 0, none⟩)] w fun e w' => e = .returned (.bool true) ∧ w = w' := by
  go_enter Try.func34, Try.ntmps34
  go_wp2
  go_ret
  exact ⟨rfl, rfl⟩
theorem valid_no {v : Value} {w : World} {lo hi : Nat} (h : NoH w lo hi v) : Calls Try.prog 34 #[v] w fun e w' => e = .returned (.bool false) ∧ w = w' := by
  rcases h with rfl | ⟨p, -, rfl, h⟩
  · go_enter Try.func34, Try.ntmps34
    go_wp2
    go_ret
    exact ⟨rfl, rfl⟩
  · go_enter Try.func34, Try.ntmps34
    go_wp2
    go_ret
    exact ⟨rfl, rfl⟩

/-! ### Bucket -/
/-- The closure of Bucket: is the bound greater? -/
theorem over_any {w : World} {lo hi p hb xb : Nat} {B C : List Int} {x : Int} (h : PH w lo hi p B C) (hh : w.cell? ⟨hb, 0, none⟩ = some (.pointer (some ⟨p, 0, none⟩))) (hx : w.cell? ⟨xb, 0, none⟩ = some (.int .i64 x)) (k : Nat) (hk : k < B.length) (hm : B.length ≤ 1024) :
    Calls Try.prog 43 #[.int .i64 k, .pointer (some ⟨hb, 0, none⟩), .pointer (some ⟨xb, 0, none⟩)] w fun e w' => e = .returned (.bool (decide (x < B.getD k 0))) ∧ ∃ n, w' = w.drewN n := by
  obtain ⟨cb, bb, a, cp, cap, ex, h1, h2, h3, b1, b2, b3⟩ := h
  have c1 : w.cell? ⟨p, 1, none⟩ = some (.slice a B.length cp) := b1.cell 1
  obtain ⟨off, rfl, hc⟩ := b2.1.2.2.2 (by omega)
  have hck := hc k hk
  have i0 : (0 : Int) ≤ k := by omega
  have i1 : (k : Int) < B.length := by omega
  obtain ⟨y, hy⟩ : ∃ y, B.getD k 0 = y := ⟨_, rfl⟩
  rw [hy] at hck ⊢
  clear hc hy b1 b2 b3 h1 h2 h3
  go_enter Try.func43, Try.ntmps43
  go_wp2
  go_quiet (fail)
  go_wp2
  go_ret
  exact ⟨rfl, _, rfl⟩

theorem search_any {w : World} {lo hi p hb xb : Nat} {B C : List Int} {x : Int} (h : PH w lo hi p B C) (hu : up B) (hh : w.cell? ⟨hb, 0, none⟩ = some (.pointer (some ⟨p, 0, none⟩))) (hx : w.cell? ⟨xb, 0, none⟩ = some (.int .i64 x)) (hm : B.length ≤ 1024) :
    Calls Try.prog 42 #[.int .i64 B.length, .func (.func 43) #[] #[.pointer (some ⟨hb, 0, none⟩), .pointer (some ⟨xb, 0, none⟩)]] w fun e w' => e = .returned (.int .i64 (cnt B x)) ∧ ∃ n, w' = w.drewN n := by
  have eg := enters_of Try.func43 (by kernel_rfl) rfl
  have CL : ∀ (k : Nat) (z : Int) (W : World) (n : Nat), (k : Int) = z → k < B.length → w.drewN n = W →
      Calls Try.prog 43 #[.int .i64 z, .pointer (some ⟨hb, 0, none⟩), .pointer (some ⟨xb, 0, none⟩)] W fun e w' => e = .returned (.bool (decide (x < B.getD k 0))) ∧ ∃ n, w' = w.drewN n := by
    rintro k z W n rfl hk rfl
    refine (over_any (w := w.drewN n) (x := x) (show PH (w.drewN n) lo hi p B C from h) hh hx k hk hm).mono ?_
    rintro e w' ⟨rfl, m, rfl⟩
    exact ⟨rfl, n + m, by rw [World.drewN_drewN]⟩
  have CL := Lib.hid CL
  have HU := Lib.hid hu
  have hl := cnt_le B x
  clear h hh hx hu
  go_enter Try.func42, Try.ntmps42
  go_wp2
  go_loopw [5, 6] (fun u v wr => ∃ i j : Nat, u = .int .i64 i ∧ v = .int .i64 j ∧ i ≤ j ∧ j ≤ B.length ∧ i ≤ cnt B x ∧ cnt B x ≤ j ∧ Hid (∃ n, w.drewN n = wr)) (fun u v _ => (intOf v - intOf u).toNat)
  case atStart => exact ⟨0, B.length, rfl, rfl, by omega, by omega, by omega, hl, 0, rfl⟩
  case round =>
    obtain ⟨i, j, rfl, rfl, hij, hj, h1, h2, HN⟩ := hrel
    by_cases hlt : i < j
    · go_wp2_with fail
      obtain ⟨n, hn⟩ := HN.out
      refine (CL.out ((i + j) / 2) _ wr n (by omega) (by omega) hn).mono ?_
      rintro e w' ⟨rfl, m, hw'⟩
      have HN' : Hid (∃ n, w.drewN n = w') := ⟨m, hw'.symm⟩
      clear hn hw' HN
      obtain ⟨q, hq⟩ : ∃ q, (i + j) / 2 = q := ⟨_, rfl⟩
      have ei : ((i : Int) + j) / 2 = q := by omega
      rw [ei, hq]
      clear ei
      by_cases hx : x < B.getD q 0
      · have hc : cnt B x ≤ q := by
          rcases Nat.lt_or_ge q (cnt B x) with h | h
          · have := cnt_lo HU.out x h; omega
          · exact h
        have hxb : decide (x < B.getD q 0) = true := by simpa using hx
        rw [hxb]
        have q1 : i ≤ q := by omega
        have q2 : q < j := by omega
        clear hq hxb hx
        go_wp2
        go_roundw
        case rel => exact ⟨i, q, rfl, rfl, q1, by omega, h1, hc, HN'⟩
        case measure => simp [intOf]; omega
      · have hc : q + 1 ≤ cnt B x := by
          rcases Nat.lt_or_ge q (cnt B x) with h | h
          · exact h
          · have := cnt_hi HU.out x h (by omega); omega
        have hxb : decide (x < B.getD q 0) = false := by simpa using hx
        rw [hxb]
        have q1 : i ≤ q := by omega
        have q2 : q < j := by omega
        clear hq hxb hx
        go_wp2
        go_roundw
        case rel => exact ⟨q + 1, j, by go_num, rfl, by omega, hj, hc, h2, HN'⟩
        case measure => simp [intOf]; omega
    · obtain rfl : i = j := by omega
      go_wp2
      go_ret
      obtain ⟨n, hn⟩ := HN.out
      exact ⟨ret_int (by omega), n, hn.symm⟩

theorem PHo.below {w w' : World} {lo hi : Nat} {v : Value} {o : St} (h : PHo w lo hi v o) (m : Below w.heap.size w w') : PHo w' lo hi v o := by
  rcases o with _ | ⟨B, C⟩
  · rcases h with rfl | ⟨p, hl, rfl, h⟩
    · exact .inl rfl
    · exact .inr ⟨p, hl, rfl, (m.cell (World.block_lt_of_cell? w _ h)).trans h⟩
  · obtain ⟨g, p, rfl, h⟩ := h
    exact ⟨g, p, rfl, h.below m⟩
theorem PHo.mod {w w' : World} {lo hi lo' hi' : Nat} {v : Value} {o : St} (h : PHo w lo hi v o) (m : Mod lo' hi' w w') (ho : hi ≤ lo' ∨ hi' ≤ lo) : PHo w' lo hi v o := by
  rcases o with _ | ⟨B, C⟩
  · rcases h with rfl | ⟨p, hl, rfl, h⟩
    · exact .inl rfl
    · exact .inr ⟨p, hl, rfl, (World.cell?_of_block (w := w) (m.block p (World.block_lt_of_cell? w _ h) (by omega))).trans h⟩
  · obtain ⟨g, p, rfl, h⟩ := h
    exact ⟨g, p, rfl, h.mod m ho⟩

theorem bucket_any {w : World} {lo hi : Nat} {v : Value} {o : St} (h : PHo w lo hi v o) (x : Int) :
    Calls Try.prog 19 #[v, .int .i64 x] w fun e w' => e = .returned (.int .i64 (bucket o x)) ∧ Below w.heap.size w w' := by
  rcases o with _ | ⟨B, C⟩
  · have HV := Lib.hid (fun W (hb : Below w.heap.size w W) => valid_no (PHo.below (lo := lo) (hi := hi) (o := none) h hb))
    have B2 : ∀ o1 o2, Hid (Below w.heap.size w ((w.alloc o1).alloc o2)) := fun o1 o2 => ((Below.refl _ _).alloc (Nat.le_refl _) _).alloc (by simp) _
    have B2 := Lib.hid B2
    rcases h with rfl | ⟨p, -, rfl, h⟩
    all_goals
      go_enter Try.func19, Try.ntmps19
      go_wp2_with fail
      refine (HV.out _ (B2.out _ _).out).mono ?_
      rintro e w' ⟨rfl, rfl⟩
      go_wp2
      go_ret
      exact ⟨rfl, (B2.out _ _).out⟩
  · obtain ⟨g, p, rfl, hp⟩ := h
    have HP := Lib.hid hp
    have HG := Lib.hid g
    obtain ⟨cb, bb, a, cp, cap, ex, h1, h2, h3, b1, b2, b3⟩ := hp
    have c0 : w.cell? ⟨p, 0, none⟩ = some (.bool true) := b1.cell 0
    have c1 : w.cell? ⟨p, 1, none⟩ = some (.slice a B.length cp) := b1.cell 1
    have hlt := b1.lt
    have B2 : ∀ o1 o2, Hid (Below w.heap.size w ((w.alloc o1).alloc o2)) := fun o1 o2 => ((Below.refl _ _).alloc (Nat.le_refl _) _).alloc (by simp) _
    have B2 := Lib.hid B2
    clear g b1 b2 b3 h1 h2 h3
    go_enter Try.func19, Try.ntmps19
    go_wp2_with fail
    refine (valid_yes p _ (by simp [go_sem, *])).mono ?_
    rintro e w' ⟨rfl, rfl⟩
    go_wp2_with fail
    refine (search_any (hb := w.heap.size) (xb := w.heap.size + 1) (x := x) (HP.out.below (B2.out _ _).out) HG.out.up (by simp [go_sem]) (by simp [go_sem]) HG.out.size).mono ?_
    rintro e w' ⟨rfl, n, rfl⟩
    go_wp2
    go_ret
    exact ⟨rfl, below_drewN (B2.out _ _).out n⟩

/-! ### copies of slices -/
def GivesInts (w : World) (l : List Int) (e : Ending) (w' : World) : Prop := ∃ b a n c, e = .returned (.slice a n c) ∧ Ints w' b a n c l ∧ Below w.heap.size w w' ∧ (0 < n → w.heap.size ≤ b ∧ a = some ⟨b, 0, none⟩ ∧ ∃ ex, c = n + ex.length ∧ Bk w' b 2 (l.map (Value.int .i64) ++ ex))

theorem info2 : (Try.prog.info? 2).map (fun i => (i.zero, i.size, i.bytes)) = some (some (.int .i64 0), 1, 8) := by kernel_rfl
theorem ints_one {l : List Int} : ∀ u ∈ l.map (Value.int .i64), u.oneCell' = true := by
  intro u hu
  obtain ⟨x, _, rfl⟩ := List.mem_map.1 hu
  rfl
theorem append_ints {w : World} {ops : Array Oper} {rest : List Oper} {o : Oper} {a : Act} {Q : Exit → Act → World → Prop} (hgd : o.guard = none) (s x : Operand)
    (ho : o.op = .call { callee := .builtin .append, args := #[s, x], argTypes := #[22, 22] })
    (base n : Nat) (v : Value) (xs : List Int) (hs : a.eval s = v) (hown : w.ownsRow base 2 1 v n (xs.map (Value.int .i64)))
    (b : Nat) (sa : Option Addr) (m c : Nat) (l : List Int) (hx : a.eval x = .slice sa m c) (hsrc : Ints w b sa m c l) (hn : n + m ≤ 1000000) (hbase : base ≤ w.heap.size)
    (h : ∀ v' w', w'.ownsRow base 2 1 v' (n + m) ((xs ++ l).map (Value.int .i64)) → Hid (Below base w w') → wpList Try.prog ops Q rest (a.put o.dst v') w') : wpList Try.prog ops Q (o :: rest) a w := by
  obtain ⟨i0, hi, hz0, hz1, hz2⟩ := info_parts info2
  obtain ⟨h1, h2, h5, h3⟩ := hsrc
  have key : ∀ y, sa = some y → (∀ (j : Nat) (u : Value), (l.map (Value.int .i64))[j]? = some u → w.cell? (y.add j) = some u) → wpList Try.prog ops Q (o :: rest) a w := by
    rintro y rfl h4
    refine wpList_append_own _ hgd s x 22 ho base 2 i0 (.int .i64 0) 1 8 Try.underlying22 hi hz0 hz1 hz2 rfl (by decide) v n _ hs hown y m c (l.map (Value.int .i64)) hx (by simp [h1]) h4 ints_one (by unfold maxLen; omega) (by omega) hbase ?_
    intro v' w' hown' hgrow _
    refine h v' w' (by simpa using hown') ?_
    exact Below.grown (Below.refl _ _) hgrow hbase (fun k hk => (hown.lt k hk).1)
  rcases Nat.eq_zero_or_pos m with rfl | hm
  · obtain rfl : l = [] := List.length_eq_zero_iff.1 h1
    rcases sa with _ | y
    · obtain rfl : c = 0 := h5 rfl
      exact wpList_append_own_none hgd s x 22 ho base 2 i0 1 Try.underlying22 hi v n _ hs hown hx (h v w (by simpa using hown) (Below.refl _ _))
    · exact key y rfl (by simp)
  · obtain ⟨off, rfl, hc⟩ := h3 hm
    refine key _ rfl fun j u hu => ?_
    simp only [List.getElem?_map, Option.map_eq_some_iff] at hu
    obtain ⟨z, hz, rfl⟩ := hu
    obtain ⟨hj, he⟩ := List.getElem?_eq_some_iff.1 hz
    rw [Go.WideShapes.add_plain, hc j (by omega), List.getD_eq_getElem?_getD, hz]
    rfl

set_option maxRecDepth 100000 in
theorem clone_any {w : World} {b : Nat} {a : Option Addr} {n c : Nat} {l : List Int} (h : Ints w b a n c l) (hn : n ≤ 1000000) :
    Calls Try.prog 41 #[.slice a n c] w (GivesInts w l) := by
  have hnil := fun w a n c => Lib.run_eql_slice_nil (P := Try.prog) w 22 2 a n c 0 0 Try.underlying22
  rcases a with _ | y
  · have hn0 : n = 0 := by
      rcases Nat.eq_zero_or_pos n with h0 | h0
      · exact h0
      · obtain ⟨off, e, -⟩ := h.2.2.2 h0; cases e
    subst hn0
    obtain rfl : l = [] := List.length_eq_zero_iff.1 h.1
    have hc0 : c = 0 := h.2.2.1 rfl
    subst hc0
    clear h
    have post : GivesInts w [] (.returned (.slice none 0 0)) w := ⟨0, none, 0, 0, rfl, Ints.nil _ _ _ _ (fun _ => rfl), Below.refl _ _, fun h => absurd h (by omega)⟩
    have POST := Lib.hid post
    clear post
    go_enter Try.func41, Try.ntmps41
    go_wp2
    go_ret
    exact POST.out
  · have own0 : (w.alloc (.cells #[] 2)).ownsRow w.heap.size 2 1 (.slice (some ⟨w.heap.size, 0, none⟩) 0 0) 0 (([] : List Int).map (Value.int .i64)) := World.ownsRow_lit (base := w.heap.size) (e := 2) (size := 1) w #[] 0 (Nat.le_refl _) (Nat.zero_le _) rfl
    have b0 : Below w.heap.size w (w.alloc (.cells #[] 2)) := (Below.refl _ _).alloc (Nat.le_refl _) _
    have H0 := Lib.hid (h.below b0)
    have B0 := Lib.hid b0
    have HR := Lib.hid h.2.1
    clear h b0
    go_enter Try.func41, Try.ntmps41
    go_wp2_with (at_builtin; refine append_ints rfl _ _ rfl w.heap.size 0 _ [] rfl own0 b (some y) n c l rfl H0.out (by omega) (by simp) ?_)
    intro v1 w1 own1 hb1
    go_wp2
    go_ret
    obtain ⟨b1, a1, c1, rfl, hi, hge⟩ := Ints.of_own own1 (by simpa using HR.out)
    exact ⟨b1, a1, _, c1, rfl, by simpa using hi, B0.out.trans hb1.out, by simpa using hge⟩


theorem counts_cl {w : World} {hb p : Nat} {a : Option Addr} {n c : Nat} (hh : w.cell? ⟨hb, 0, none⟩ = some (.pointer (some ⟨p, 0, none⟩))) (hc : w.cell? ⟨p, 2, none⟩ = some (.slice a n c)) :
    Calls Try.prog 46 #[.pointer (some ⟨hb, 0, none⟩)] w fun e w' => e = .returned (.slice a n c) ∧ w = w' := by
  go_enter Try.func46, Try.ntmps46
  go_wp2
  go_ret
  exact ⟨rfl, rfl⟩
theorem counts_copied {w : World} {hb p b : Nat} {a : Option Addr} {n c : Nat} {l : List Int} (h0 : w.cell? ⟨p, 0, none⟩ = some (.bool true)) (hh : w.cell? ⟨hb, 0, none⟩ = some (.pointer (some ⟨p, 0, none⟩)))
    (hc : w.cell? ⟨p, 2, none⟩ = some (.slice a n c)) (hi : Ints w b a n c l) (hn : n ≤ 1000000) :
    Calls Try.prog 45 #[.pointer (some ⟨p, 0, none⟩), .func (.func 46) #[] #[.pointer (some ⟨hb, 0, none⟩)]] w (GivesInts w l) := by
  have eg := enters_of Try.func46 (by kernel_rfl) rfl
  have CC := Lib.hid (counts_cl hh hc)
  have CK := Lib.hid (clone_any hi hn)
  have CV := Lib.hid (valid_yes p w h0)
  clear hi hh hc h0
  go_enter Try.func45, Try.ntmps45
  go_wp2_with fail
  refine CV.out.mono ?_
  rintro e w' ⟨rfl, rfl⟩
  go_wp2_with fail
  refine CC.out.mono ?_
  rintro e w' ⟨rfl, rfl⟩
  go_wp2_with fail
  refine CK.out.mono ?_
  rintro e w' ⟨b', a', n', c', rfl, hi', hb', hg'⟩
  have HX := Lib.hid (show GivesInts w l (.returned (.slice a' n' c')) w' from ⟨b', a', n', c', rfl, hi', hb', hg'⟩)
  clear hi' hb' hg'
  go_wp2
  go_ret
  exact HX.out
theorem counts_copied_no {w : World} {v : Value} {hb : Nat} (h : Calls Try.prog 34 #[v] w fun e w' => e = .returned (.bool false) ∧ w = w') :
    Calls Try.prog 45 #[v, .func (.func 46) #[] #[.pointer (some ⟨hb, 0, none⟩)]] w fun e w' => e = .returned (.slice none 0 0) ∧ w = w' := by
  have eg := enters_of Try.func46 (by kernel_rfl) rfl
  have H := Lib.hid h
  clear h
  go_enter Try.func45, Try.ntmps45
  go_wp2_with fail
  refine H.out.mono ?_
  rintro e w' ⟨rfl, rfl⟩
  go_wp2
  go_ret
  exact ⟨rfl, rfl⟩
theorem counts_any {w : World} {lo hi : Nat} {v : Value} {o : St} (h : PHo w lo hi v o) : Calls Try.prog 21 #[v] w (GivesInts w (counts o)) := by
  have B1 : ∀ o1, Hid (Below w.heap.size w (w.alloc o1)) := fun o1 => (Below.refl _ _).alloc (Nat.le_refl _) _
  have B1 := Lib.hid B1
  rcases o with _ | ⟨B, C⟩
  · have HV := Lib.hid (fun W (hb : Below w.heap.size w W) => valid_no (PHo.below (lo := lo) (hi := hi) (o := none) h hb))
    have POST := Lib.hid (fun o1 => show GivesInts w [] (.returned (.slice none 0 0)) (w.alloc o1) from ⟨0, none, 0, 0, rfl, Ints.nil _ _ _ _ (fun _ => rfl), (Below.refl _ _).alloc (Nat.le_refl _) _, fun h => absurd h (by omega)⟩)
    rcases h with rfl | ⟨p, -, rfl, h⟩
    all_goals
      go_enter Try.func21, Try.ntmps21
      go_wp2_with fail
      refine (counts_copied_no (HV.out _ (B1.out _).out)).mono ?_
      rintro e w' ⟨rfl, rfl⟩
      go_wp2
      go_ret
      exact POST.out _
  · obtain ⟨g, p, rfl, hp⟩ := h
    have HGG := g
    obtain ⟨cb, bb, a, cp, cap, ex, h1, h2, h3, b1, b2, b3⟩ := hp
    have len1 : B.length ≤ 1000000 := by have := g.size; omega
    have len2 : C.length ≤ 1000000 := by have := g.len; have := g.size; omega
    obtain ⟨a', n', c', hcell, bk, hints, hlen⟩ : ∃ a' n' c', w.cell? ⟨p, 2, none⟩ = some (.slice a' n' c') ∧ (∃ b', Ints w b' a' n' c' C) ∧ n' ≤ 1000000 ∧ True := ⟨_, _, _, b1.cell 2, ⟨cb, Ints.of_bk b3 HGG.crng⟩, by assumption, trivial⟩
    obtain ⟨b', bk⟩ := bk
    have c0 : w.cell? ⟨p, 0, none⟩ = some (.bool true) := b1.cell 0
    have hlt := b1.lt
    have BK := Lib.hid (fun o1 => bk.below (B1.out o1).out)
    have HN := Lib.hid hints
    clear g HGG b1 b2 b3 h1 h2 h3 bk len1 len2 hints
    go_enter Try.func21, Try.ntmps21
    go_wp2_with fail
    refine (counts_copied (hb := w.heap.size) (by simp [go_sem, *]) (by simp [go_sem]) (by simp [go_sem, hlt, hcell]) (BK.out _) HN.out).mono ?_
    rintro e w' ⟨b2, a2, n2, c2, rfl, hi2, hb2, hg2⟩
    have HX := Lib.hid (show GivesInts w C (.returned (.slice a2 n2 c2)) w' from ⟨b2, a2, n2, c2, rfl, hi2, (B1.out _).out.trans (hb2.mono (by simp)), fun h => ⟨Nat.le_trans (by simp) (hg2 h).1, (hg2 h).2⟩⟩)
    clear hi2 hb2 hg2
    go_wp2
    go_ret
    exact HX.out

theorem bounds_cl {w : World} {hb p : Nat} {a : Option Addr} {n c : Nat} (hh : w.cell? ⟨hb, 0, none⟩ = some (.pointer (some ⟨p, 0, none⟩))) (hc : w.cell? ⟨p, 1, none⟩ = some (.slice a n c)) :
    Calls Try.prog 52 #[.pointer (some ⟨hb, 0, none⟩)] w fun e w' => e = .returned (.slice a n c) ∧ w = w' := by
  go_enter Try.func52, Try.ntmps52
  go_wp2
  go_ret
  exact ⟨rfl, rfl⟩
theorem bounds_copied {w : World} {hb p b : Nat} {a : Option Addr} {n c : Nat} {l : List Int} (h0 : w.cell? ⟨p, 0, none⟩ = some (.bool true)) (hh : w.cell? ⟨hb, 0, none⟩ = some (.pointer (some ⟨p, 0, none⟩)))
    (hc : w.cell? ⟨p, 1, none⟩ = some (.slice a n c)) (hi : Ints w b a n c l) (hn : n ≤ 1000000) :
    Calls Try.prog 45 #[.pointer (some ⟨p, 0, none⟩), .func (.func 52) #[] #[.pointer (some ⟨hb, 0, none⟩)]] w (GivesInts w l) := by
  have eg := enters_of Try.func52 (by kernel_rfl) rfl
  have CC := Lib.hid (bounds_cl hh hc)
  have CK := Lib.hid (clone_any hi hn)
  have CV := Lib.hid (valid_yes p w h0)
  clear hi hh hc h0
  go_enter Try.func45, Try.ntmps45
  go_wp2_with fail
  refine CV.out.mono ?_
  rintro e w' ⟨rfl, rfl⟩
  go_wp2_with fail
  refine CC.out.mono ?_
  rintro e w' ⟨rfl, rfl⟩
  go_wp2_with fail
  refine CK.out.mono ?_
  rintro e w' ⟨b', a', n', c', rfl, hi', hb', hg'⟩
  have HX := Lib.hid (show GivesInts w l (.returned (.slice a' n' c')) w' from ⟨b', a', n', c', rfl, hi', hb', hg'⟩)
  clear hi' hb' hg'
  go_wp2
  go_ret
  exact HX.out
theorem bounds_copied_no {w : World} {v : Value} {hb : Nat} (h : Calls Try.prog 34 #[v] w fun e w' => e = .returned (.bool false) ∧ w = w') :
    Calls Try.prog 45 #[v, .func (.func 52) #[] #[.pointer (some ⟨hb, 0, none⟩)]] w fun e w' => e = .returned (.slice none 0 0) ∧ w = w' := by
  have eg := enters_of Try.func52 (by kernel_rfl) rfl
  have H := Lib.hid h
  clear h
  go_enter Try.func45, Try.ntmps45
  go_wp2_with fail
  refine H.out.mono ?_
  rintro e w' ⟨rfl, rfl⟩
  go_wp2
  go_ret
  exact ⟨rfl, rfl⟩
theorem bounds_any {w : World} {lo hi : Nat} {v : Value} {o : St} (h : PHo w lo hi v o) : Calls Try.prog 32 #[v] w (GivesInts w (bounds o)) := by
  have B1 : ∀ o1, Hid (Below w.heap.size w (w.alloc o1)) := fun o1 => (Below.refl _ _).alloc (Nat.le_refl _) _
  have B1 := Lib.hid B1
  rcases o with _ | ⟨B, C⟩
  · have HV := Lib.hid (fun W (hb : Below w.heap.size w W) => valid_no (PHo.below (lo := lo) (hi := hi) (o := none) h hb))
    have POST := Lib.hid (fun o1 => show GivesInts w [] (.returned (.slice none 0 0)) (w.alloc o1) from ⟨0, none, 0, 0, rfl, Ints.nil _ _ _ _ (fun _ => rfl), (Below.refl _ _).alloc (Nat.le_refl _) _, fun h => absurd h (by omega)⟩)
    rcases h with rfl | ⟨p, -, rfl, h⟩
    all_goals
      go_enter Try.func32, Try.ntmps32
      go_wp2_with fail
      refine (bounds_copied_no (HV.out _ (B1.out _).out)).mono ?_
      rintro e w' ⟨rfl, rfl⟩
      go_wp2
      go_ret
      exact POST.out _
  · obtain ⟨g, p, rfl, hp⟩ := h
    have HGG := g
    obtain ⟨cb, bb, a, cp, cap, ex, h1, h2, h3, b1, b2, b3⟩ := hp
    have len1 : B.length ≤ 1000000 := by have := g.size; omega
    have len2 : C.length ≤ 1000000 := by have := g.len; have := g.size; omega
    obtain ⟨a', n', c', hcell, bk, hints, hlen⟩ : ∃ a' n' c', w.cell? ⟨p, 1, none⟩ = some (.slice a' n' c') ∧ (∃ b', Ints w b' a' n' c' B) ∧ n' ≤ 1000000 ∧ True := ⟨_, _, _, b1.cell 1, ⟨bb, b2.1⟩, by assumption, trivial⟩
    obtain ⟨b', bk⟩ := bk
    have c0 : w.cell? ⟨p, 0, none⟩ = some (.bool true) := b1.cell 0
    have hlt := b1.lt
    have BK := Lib.hid (fun o1 => bk.below (B1.out o1).out)
    have HN := Lib.hid hints
    clear g HGG b1 b2 b3 h1 h2 h3 bk len1 len2 hints
    go_enter Try.func32, Try.ntmps32
    go_wp2_with fail
    refine (bounds_copied (hb := w.heap.size) (by simp [go_sem, *]) (by simp [go_sem]) (by simp [go_sem, hlt, hcell]) (BK.out _) HN.out).mono ?_
    rintro e w' ⟨b2, a2, n2, c2, rfl, hi2, hb2, hg2⟩
    have HX := Lib.hid (show GivesInts w B (.returned (.slice a2 n2 c2)) w' from ⟨b2, a2, n2, c2, rfl, hi2, (B1.out _).out.trans (hb2.mono (by simp)), fun h => ⟨Nat.le_trans (by simp) (hg2 h).1, (hg2 h).2⟩⟩)
    clear hi2 hb2 hg2
    go_wp2
    go_ret
    exact HX.out


end Go.Proofs.Ytpfdoifkimjlbaa

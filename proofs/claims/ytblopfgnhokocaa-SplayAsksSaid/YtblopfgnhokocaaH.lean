/- THE CONTRACTS of package splay: Same, At. -/
import Derived.Test.YtblopfgnhokocaaG
import Derived.Deep.LoopGhost
namespace Go.Proofs.Ytblopfgnhokocaa
open Go.RowKit P
set_option linter.unusedVariables false
set_option linter.unusedSimpArgs false

def nodeB (V : List Int) (x : Int) : Bool := decide (0 ≤ x ∧ x < V.length)
theorem nodeB_yes {V : List Int} {x : Int} (h0 : 0 ≤ x) (h : x < V.length) : nodeB V x = true := decide_eq_true ⟨h0, h⟩
theorem nodeB_no {V : List Int} {x : Int} (h : ¬ (0 ≤ x ∧ x < V.length)) : nodeB V x = false := decide_eq_false h
theorem nodeB_iff {V : List Int} {x : Int} : nodeB V x = true ↔ (0 ≤ x ∧ x < V.length) := by unfold nodeB; simp
/-- What Same answers. -/
def sameB (L : List (List Nat)) (V : List Int) (x y : Int) : Bool := nodeB V x && nodeB V y && decide (y.toNat ∈ lst L x.toNat)
def chkE (V : List Int) (x : Int) : Int := if nodeB V x then 0 else 3
/-- check, of whatever number. -/
def chkV (V : List Int) (x : Int) : Int := if nodeB V x then x + 1 else 0
theorem check_any {w : World} {p g n cap : Nat} {V : List Int} (h : Ob w p g n cap) (hn : n ≤ 65536) (hl : V.length = n) (x : Int) : Calls Try.prog 38 #[.pointer (some ⟨p, 0, none⟩), .int .i64 x] w fun e w' => e = .returned (.tuple #[.int .i32 (chkV V x), .int .i64 (chkE V x)]) ∧ w = w' := by
  by_cases hx : 0 ≤ x ∧ x < V.length
  · have e1 : chkV V x = (x.toNat + 1 : Nat) := by unfold chkV; rw [nodeB_yes hx.1 hx.2]; simp; omega
    have e2 : chkE V x = 0 := by unfold chkE; rw [nodeB_yes hx.1 hx.2]; rfl
    rw [e1, e2]
    exact check_ok h hn x _ (by omega) hx.1 (by omega)
  · have e1 : chkV V x = 0 := by unfold chkV; rw [nodeB_no hx]; rfl
    have e2 : chkE V x = 3 := by unfold chkE; rw [nodeB_no hx]; rfl
    rw [e1, e2]
    exact check_bad h hn x (by omega)
theorem same_none {w : World} {lo hi : Nat} {v : Value} (h : NoS w lo hi v) (x y : Int) : Calls Try.prog 18 #[v, .int .i64 x, .int .i64 y] w (Sp w lo hi v none (.bool false)) := by
  have HC := Lib.hid (check_none h x)
  have HD := Lib.hid (check_none h y)
  have FIN : Hid (Sp w lo hi v none (.bool false) (.returned (.bool false)) w) := ⟨rfl, h, Mod.refl _ _ _⟩
  clear h
  go_enter Try.func18, Try.ntmps18
  go_wp2_with fail
  refine HC.out.mono ?_
  rintro e w' ⟨rfl, rfl⟩
  go_wp2_with fail
  refine HD.out.mono ?_
  rintro e w' ⟨rfl, rfl⟩
  go_wp2
  go_ret
  exact FIN.out
set_option maxHeartbeats 1000000 in
theorem same_any {w : World} {lo hi p : Nat} {L : List (List Nat)} {V : List Int} (h : PT w lo hi p L V) (x y : Int) : Calls Try.prog 18 #[.pointer (some ⟨p, 0, none⟩), .int .i64 x, .int .i64 y] w (Sp w lo hi (.pointer (some ⟨p, 0, none⟩)) (some (L, V)) (.bool (sameB L V x y))) := by
  have FIN : Hid (∀ b, Sp w lo hi (.pointer (some ⟨p, 0, none⟩)) (some (L, V)) (.bool b) (.returned (.bool b)) w) := fun b => ⟨rfl, ⟨p, rfl, h⟩, Mod.refl _ _ _⟩
  obtain ⟨g, n, cap, T, l1, l2, hcap, hI⟩ := h
  have HC := Lib.hid (check_any hI.hob hI.hn hI.len x)
  have HD := Lib.hid (check_any hI.hob hI.hn hI.len y)
  by_cases hx : nodeB V x = true
  · by_cases hy : nodeB V y = true
    · obtain ⟨x0, x1⟩ := nodeB_iff.1 hx
      obtain ⟨y0, y1⟩ := nodeB_iff.1 hy
      have ev : sameB L V x y = decide (y.toNat ∈ lst L x.toNat) := by unfold sameB; rw [hx, hy]; rfl
      have hxn : x.toNat < n := by have := hI.len; omega
      have hyn : y.toNat < n := by have := hI.len; omega
      have hn := hI.hn
      obtain ⟨a, ha⟩ : ∃ a, a = x.toNat + 1 := ⟨_, rfl⟩
      obtain ⟨b, hb⟩ : ∃ b, b = y.toNat + 1 := ⟨_, rfl⟩
      have e1 : chkV V x = a := by unfold chkV; rw [hx]; simp; omega
      have e2 : chkE V x = 0 := by unfold chkE; rw [hx]; rfl
      have e3 : chkV V y = b := by unfold chkV; rw [hy]; simp; omega
      have e4 : chkE V y = 0 := by unfold chkE; rw [hy]; rfl
      rw [e1, e2] at HC
      rw [e3, e4] at HD
      by_cases hab : a = b
      · have hm : sameB L V x y = true := by rw [ev, show y.toNat = x.toNat by omega]; exact decide_eq_true (hI.fok.part.lst hxn).2
        have hb2 : ((a : Int) == (b : Int)) = true := by simp [hab]
        have HM := Lib.hid hm
        clear hI ha hb e1 e2 e3 e4 hab hm ev hx hy x0 x1 y0 y1 l1 l2 hcap
        go_enter Try.func18, Try.ntmps18
        go_wp2_with fail
        refine HC.out.mono ?_
        rintro e w' ⟨rfl, rfl⟩
        go_wp2_with fail
        refine HD.out.mono ?_
        rintro e w' ⟨rfl, rfl⟩
        go_wp2
        go_ret
        rw [HM.out]
        exact FIN.out _
      · have hb2 : ((a : Int) == (b : Int)) = false := by simp; omega
        have HS := Lib.hid (splayF hI x.toNat hxn a ha)
        have HX := Lib.hid (And.intro hxn (And.intro hyn (And.intro ha (And.intro hb ev))))
        have LL := Lib.hid (And.intro l1 (And.intro l2 hcap))
        have han : a ≤ n := by omega
        have npg := hI.ne
        have npg' : ¬ g = p := fun e => npg e.symm
        have NAB := Lib.hid hab
        clear hI ha hb e1 e2 e3 e4 hab ev hx hy x0 x1 y0 y1 l1 l2 hcap hxn hyn FIN
        go_enter Try.func18, Try.ntmps18
        go_wp2_with fail
        refine HC.out.mono ?_
        rintro e w' ⟨rfl, rfl⟩
        go_wp2_with fail
        refine HD.out.mono ?_
        rintro e w' ⟨rfl, rfl⟩
        go_wp2_with fail
        refine HS.out.mono ?_
        rintro e w2 ⟨rfl, T2, i2, m2, r2, f2⟩
        have HS2 := Lib.hid (splayF i2 y.toNat HX.out.2.1 b HX.out.2.2.2.1)
        have R2 := Lib.hid r2
        have M2 := Lib.hid m2
        clear i2 m2 r2 f2 HS
        go_wp2_with fail
        refine HS2.out.mono ?_
        rintro e w3 ⟨rfl, T3, i3, m3, r3, f3⟩
        have c1 := i3.hob.2
        have M3 : Hid (Mod g (g + 1) w w3) := M2.out.trans m3
        have I3 := Lib.hid i3
        have hup : Hid (((T3 a).up = 0 ∧ sameB L V x y = false) ∨ ((T3 a).up ≠ 0 ∧ sameB L V x y = true)) := by
          obtain ⟨hxn, hyn, ha, hb, ev⟩ := HX.out
          have hp := i3.fok.part
          by_cases hm : y.toNat ∈ lst L x.toNat
          · right
            have el := hp.uniq (hp.lst hxn).1 hm
            obtain ⟨⟨c, d, tr⟩, tt⟩ := r3
            rw [el] at tr
            refine ⟨?_, by rw [ev]; exact decide_eq_true hm⟩
            rw [ha]
            refine P.up_ne tr (up1_mem.2 (hp.lst hxn).2) ?_
            show x.toNat + 1 ≠ y.toNat + 1
            have := NAB.out
            omega
          · left
            have hnm : a ∉ up1 (lst L y.toNat) := by
              rw [ha]
              intro h
              have := up1_mem.1 h
              have el := hp.uniq (hp.lst hyn).1 this
              exact hm (by rw [el]; exact (hp.lst hyn).2)
            refine ⟨?_, by rw [ev]; exact decide_eq_false hm⟩
            rw [f3 a hnm, ha]
            obtain ⟨⟨c, d, tr⟩, tt⟩ := R2.out
            exact (root_kids tr).2.2.1
        obtain ⟨u, hu⟩ : ∃ u, (T3 a).up = u := ⟨_, rfl⟩
        have cu := RTab.cup i3.tab han hu
        rw [hu] at hup
        clear i3 m3 r3 f3 hu R2 HS2
        rcases hup.out with ⟨h1, h2⟩ | ⟨h1, h2⟩
        · have hub : ((u : Int) != 0) = false := by simp [h1]
          have H2 := Lib.hid h2
          clear h1 h2 hup
          go_wp2
          go_ret
          rw [H2.out]
          exact I3.out.sp LL.out.1 LL.out.2.1 LL.out.2.2 M3.out
        · have hub : ((u : Int) != 0) = true := by simp; omega
          have H2 := Lib.hid h2
          clear h1 h2 hup
          go_wp2
          go_ret
          rw [H2.out]
          exact I3.out.sp LL.out.1 LL.out.2.1 LL.out.2.2 M3.out
    · have hy' : nodeB V y = false := by simpa using hy
      have hm : sameB L V x y = false := by unfold sameB; rw [hy']; simp
      have e4 : chkE V y = 3 := by unfold chkE; rw [hy']; rfl
      have e2 : chkE V x = 0 := by unfold chkE; rw [hx]; rfl
      rw [e2] at HC
      rw [e4] at HD
      have HM := Lib.hid hm
      clear hI e2 e4 hm hx hy hy' l1 l2 hcap
      go_enter Try.func18, Try.ntmps18
      go_wp2_with fail
      refine HC.out.mono ?_
      rintro e w' ⟨rfl, rfl⟩
      go_wp2_with fail
      refine HD.out.mono ?_
      rintro e w' ⟨rfl, rfl⟩
      go_wp2
      go_ret
      rw [HM.out]
      exact FIN.out _
  · have hx' : nodeB V x = false := by simpa using hx
    have hm : sameB L V x y = false := by unfold sameB; rw [hx']; simp
    have e2 : chkE V x = 3 := by unfold chkE; rw [hx']; rfl
    rw [e2] at HC
    have HM := Lib.hid hm
    clear hI e2 hm hx hx' l1 l2 hcap
    go_enter Try.func18, Try.ntmps18
    go_wp2_with fail
    refine HC.out.mono ?_
    rintro e w' ⟨rfl, rfl⟩
    go_wp2_with fail
    refine HD.out.mono ?_
    rintro e w' ⟨rfl, rfl⟩
    go_wp2
    go_ret
    rw [HM.out]
    exact FIN.out _

/-! ### Len once more: what stands behind it -/
set_option maxHeartbeats 1000000 in
theorem len_in {w : World} {p g n cap : Nat} {T : Tb} {L : List (List Nat)} {V : List Int} (hI : In w p g n cap T L V) (x : Int) (h0 : 0 ≤ x) (hxn : x < n) :
    Calls Try.prog 15 #[.pointer (some ⟨p, 0, none⟩), .int .i64 x] w fun e w' => e = .returned (.int .i64 (lst L x.toNat).length) ∧ ∃ T', In w' p g n cap T' L V ∧ Mod g (g + 1) w w' ∧ Rt T' L x.toNat := by
  obtain ⟨y, hy⟩ : ∃ y, y = x.toNat + 1 := ⟨_, rfl⟩
  have hyn : y ≤ n := by omega
  have hn := hI.hn
  have HC := Lib.hid (check_ok hI.hob hI.hn x y (by omega) h0 hxn)
  have HS := Lib.hid (splayF hI x.toNat (by omega) y hy)
  have HX := Lib.hid hxn
  have HY := Lib.hid hy
  clear hI hxn hy
  go_enter Try.func15, Try.ntmps15
  go_wp2_with fail
  refine HC.out.mono ?_
  rintro e w' ⟨rfl, rfl⟩
  go_wp2_with fail
  refine HS.out.mono ?_
  rintro e w2 ⟨rfl, T2, i2, m2, r2, f2⟩
  have R2 := Lib.hid r2
  have c1 := i2.hob.2
  have cs : w2.cell? ⟨g, y * 9 + 3, none⟩ = some (.int .i32 ((lst L x.toNat).length : Nat)) := by
    obtain ⟨⟨a, b, tr⟩, tt⟩ := r2
    refine RTab.csize i2.tab hyn ?_
    rw [HY.out, (root_kids tr).2.2.2.2.1]; simp [up1]
  have hsz : (lst L x.toNat).length ≤ 65536 := by
    have hp := i2.fok.part
    have := hp.len_le (hp.lst (show x.toNat < n by have := HX.out; omega)).1
    omega
  have I2 := Lib.hid i2
  have M2 := Lib.hid m2
  obtain ⟨i, hi⟩ : ∃ i, (lst L x.toNat).length = i := ⟨_, rfl⟩
  rw [hi] at cs hsz
  have HE := Lib.hid hi
  clear i2 m2 r2 f2 HS hi
  go_wp2
  go_ret
  exact ⟨by rw [HE.out]; rfl, T2, I2.out, M2.out, R2.out⟩

/-! ### At -/
def atV (L : List (List Nat)) (V : List Int) (x k : Int) : Int := if nodeB V x && decide (0 ≤ k ∧ k < (lst L x.toNat).length) then ((lst L x.toNat).getD k.toNat 0 : Nat) else 0
def atB (L : List (List Nat)) (V : List Int) (x k : Int) : Bool := nodeB V x && decide (0 ≤ k ∧ k < (lst L x.toNat).length)
theorem at_none {w : World} {lo hi : Nat} {v : Value} (h : NoS w lo hi v) (x k : Int) : Calls Try.prog 16 #[v, .int .i64 x, .int .i64 k] w (Sp w lo hi v none (.tuple #[.int .i64 0, .bool false])) := by
  have HC := Lib.hid (check_none h x)
  have FIN : Hid (Sp w lo hi v none (.tuple #[.int .i64 0, .bool false]) (.returned (.tuple #[.int .i64 0, .bool false])) w) := ⟨rfl, h, Mod.refl _ _ _⟩
  clear h
  go_enter Try.func16, Try.ntmps16
  go_wp2_with fail
  refine HC.out.mono ?_
  rintro e w' ⟨rfl, rfl⟩
  go_wp2
  go_ret2
  exact FIN.out
/-- Where At stands: the node at the place c, t; k more to go. -/
structure AS (T : Tb) (n : Nat) (L : List (List Nat)) (V : List Int) (x : Nat) (K : Nat) (c : List Fr) (t : Tr) (y k : Nat) : Prop where
  tr : TrL T (up1 (lst L x)) (plug c t)
  un : Un T c
  root : t.root = y
  pos : (preC (tn T) c).length + k = K
  lt : k < t.nodes.length
theorem preC_congr {τ τ' : Nat → Bool} : ∀ {c : List Fr}, (∀ z ∈ cn c, τ z = τ' z) → preC τ c = preC τ' c := by
  intro c
  induction c with
  | nil => intro _; rfl
  | cons f c ih =>
    intro h
    have h1 : ∀ z ∈ cn c, τ z = τ' z := fun z hz => h z (by simp only [cn, List.flatMap_cons, List.mem_append] at hz ⊢; exact .inr hz)
    have h2 : seq τ false f.s = seq τ' false f.s := seq_congr _ _ (fun z hz => h z (by simp [cn, hz]))
    simp only [preC]
    rw [ih h1, h2]
theorem as_push {T : Tb} {n x K k y : Nat} {L : List (List Nat)} {V : List Int} {c : List Fr} {l r : Tr} (h : AS T n L V x K c (.node l y r) y k) : ∃ l' r', AS (push T y) n L V x K c (.node l' y r') y k ∧ (push T y y).turn = false := by
  obtain ⟨q1, q2, q3, q4⟩ := push_rep h.tr
  obtain ⟨l', r', e⟩ := pushT_form T l y r
  have hlen := (pushT_nodes T l y r).length_eq
  rw [e] at q1 hlen
  refine ⟨l', r', ⟨q1, fun f hf => ?_, rfl, ?_, by rw [hlen]; exact h.lt⟩, q2⟩
  · rw [q3 f.p (List.mem_flatMap.2 ⟨f, hf, by simp⟩)]; exact h.un f hf
  · rw [← h.pos]; congr 2
    exact preC_congr (fun z hz => by show (push T y z).turn = _; rw [q3 z hz])
theorem as_left {T : Tb} {n x K k y : Nat} {L : List (List Nat)} {V : List Int} {c : List Fr} {l r : Tr} (h : AS T n L V x K c (.node l y r) y k) (ht : (T y).turn = false) (hk : k < l.nodes.length) : AS T n L V x K (⟨false, y, r⟩ :: c) l l.root k := by
  refine ⟨h.tr, fun f hf => ?_, rfl, h.pos, hk⟩
  rcases List.mem_cons.1 hf with rfl | hf
  · exact ht
  · exact h.un f hf
theorem as_right {T : Tb} {n x K k y : Nat} {L : List (List Nat)} {V : List Int} {c : List Fr} {l r : Tr} (h : AS T n L V x K c (.node l y r) y k) (ht : (T y).turn = false) (hk : l.nodes.length < k) : AS T n L V x K (⟨true, y, l⟩ :: c) r r.root (k - (l.nodes.length + 1)) := by
  refine ⟨h.tr, fun f hf => ?_, rfl, ?_, ?_⟩
  · rcases List.mem_cons.1 hf with rfl | hf
    · exact ht
    · exact h.un f hf
  · have := h.pos
    simp only [preC, if_true, List.length_append, List.length_cons, List.length_nil, seq_len]
    omega
  · have := h.lt
    simp only [Tr.nodes, List.length_append, List.length_cons] at this
    omega
theorem as_hit {T : Tb} {n x K k y : Nat} {L : List (List Nat)} {V : List Int} {c : List Fr} {l r : Tr} (h : AS T n L V x K c (.node l y r) y k) (ht : (T y).turn = false) (hk : k = l.nodes.length) : (lst L x).getD K 0 + 1 = y ∧ K < (lst L x).length := by
  have e : up1 (lst L x) = preC (tn T) c ++ seq (tn T) false (.node l y r) ++ postC (tn T) c := by rw [← h.tr.2.2]; exact seq_plug h.un
  have e2 : seq (tn T) false (.node l y r) = seq (tn T) false l ++ y :: seq (tn T) false r := by
    have : tn T y = false := ht
    simp [seq, this]
  have e3 : (up1 (lst L x))[K]? = some y := by
    rw [e, e2, ← h.pos, hk]
    rw [List.append_assoc, List.getElem?_append_right (by omega), Nat.add_sub_cancel_left, List.append_assoc, List.getElem?_append_right (by rw [seq_len]; exact Nat.le_refl _), seq_len]
    simp
  unfold up1 at e3
  rw [List.getElem?_map] at e3
  cases h1 : (lst L x)[K]? with
  | none => rw [h1] at e3; cases e3
  | some z =>
    rw [h1] at e3
    rw [List.getD_eq_getElem?_getD, h1]
    exact ⟨by simpa using e3, (List.getElem?_eq_some_iff.1 h1).1⟩
/-- push leaves the object as it is. -/
theorem In.pushed {w w' : World} {ob g n cap : Nat} {T : Tb} {L : List (List Nat)} {V : List Int} {x y : Nat} {c : List Fr} {l r : Tr} (h : In w ob g n cap T L V) (hx : x < n) (tr : TrL T (up1 (lst L x)) (plug c (.node l y r))) (m : Mod g (g + 1) w w') (t : Tab w' g n (push T y)) : In w' ob g n cap (push T y) L V := by
  obtain ⟨q1, q2, q3, q4⟩ := push_rep tr
  refine In.turn h hx m t (B := [lst L x]) (fun l hl => ?_) (by simp) q4 (others_back h.fok.part hx) h.len (fun z hz => by rw [push_val]; exact h.val z hz) h.rng
  rw [List.mem_singleton] at hl; subst hl
  exact ⟨h.fok.part.2 _ (h.fok.part.lst hx).1, _, q1⟩

set_option maxRecDepth 100000 in
set_option maxHeartbeats 2000000 in
theorem at_any {w : World} {lo hi p : Nat} {L : List (List Nat)} {V : List Int} (h : PT w lo hi p L V) (x k : Int) (hk64 : In64 k) : Calls Try.prog 16 #[.pointer (some ⟨p, 0, none⟩), .int .i64 x, .int .i64 k] w (Sp w lo hi (.pointer (some ⟨p, 0, none⟩)) (some (L, V)) (.tuple #[.int .i64 (atV L V x k), .bool (atB L V x k)])) := by
  have FIN : Hid (∀ a b, Sp w lo hi (.pointer (some ⟨p, 0, none⟩)) (some (L, V)) (.tuple #[.int .i64 a, .bool b]) (.returned (.tuple #[.int .i64 a, .bool b])) w) := fun a b => ⟨rfl, ⟨p, rfl, h⟩, Mod.refl _ _ _⟩
  obtain ⟨g, n, cap, T, l1, l2, hcap, hI⟩ := h
  have HC := Lib.hid (check_any hI.hob hI.hn hI.len x)
  have kb1 := hk64.1
  have kb2 := hk64.2
  by_cases hx : nodeB V x = true
  · obtain ⟨x0, x1⟩ := nodeB_iff.1 hx
    have hxn : x < n := by have := hI.len; omega
    have hn := hI.hn
    obtain ⟨a, ha⟩ : ∃ a, a = x.toNat + 1 := ⟨_, rfl⟩
    have e1 : chkV V x = a := by unfold chkV; rw [hx]; simp; omega
    have e2 : chkE V x = 0 := by unfold chkE; rw [hx]; rfl
    rw [e1, e2] at HC
    have HL := Lib.hid (len_in hI x x0 hxn)
    have LL := Lib.hid (And.intro l1 (And.intro l2 hcap))
    have npg := hI.ne
    have npg' : ¬ g = p := fun e => npg e.symm
    have hp := hI.fok.part
    have hlx := hp.lst (show x.toNat < n by omega)
    have hlen := hp.len_le hlx.1
    by_cases hk : k < 0
    · have hv : atV L V x k = 0 ∧ atB L V x k = false := by
        unfold atV atB
        rw [hx, decide_eq_false (show ¬ (0 ≤ k ∧ k < (lst L x.toNat).length) by omega)]; exact ⟨rfl, rfl⟩
      have HV := Lib.hid hv
      clear hI e1 e2 hv hx x0 x1 hxn ha l1 l2 hcap hk64 hp hlx hlen HL
      go_enter Try.func16, Try.ntmps16
      go_wp2_with fail
      refine HC.out.mono ?_
      rintro e w' ⟨rfl, rfl⟩
      go_wp2
      go_ret2
      rw [HV.out.1, HV.out.2]
      exact FIN.out _ _
    · have hk0 : 0 ≤ k := by omega
      by_cases hkl : k < (lst L x.toNat).length
      · obtain ⟨K, hK⟩ : ∃ K : Nat, (K : Int) = k := ⟨k.toNat, by omega⟩
        have hv : atV L V x k = ((lst L x.toNat).getD K 0 : Nat) ∧ atB L V x k = true := by
          unfold atV atB
          rw [hx, decide_eq_true (show (0 ≤ k ∧ k < (lst L x.toNat).length) from ⟨hk0, hkl⟩), show k.toNat = K by omega]; exact ⟨rfl, rfl⟩
        have HV := Lib.hid hv
        obtain ⟨m, hm⟩ : ∃ m, (lst L x.toNat).length = m := ⟨_, rfl⟩
        rw [hm] at HL hkl hlen
        have hge : ¬ (m : Int) ≤ k := by omega
        have HA := Lib.hid ha
        have HM := Lib.hid hm
        subst hK
        have HX := Lib.hid (show x.toNat < n by omega)
        have kbd : K < 65536 := by omega
        have HKL := Lib.hid hkl
        have hge2 : ¬ m ≤ K := by omega
        clear hI e1 e2 hv hx x0 x1 hxn ha l1 l2 hcap hk64 hp hlx hk hm FIN kb1 kb2 hk0
        go_enter Try.func16, Try.ntmps16
        go_wp2_with fail
        refine HC.out.mono ?_
        rintro e w' ⟨rfl, rfl⟩
        go_wp2_with fail
        refine HL.out.mono ?_
        rintro e w2 ⟨rfl, T2, i2, m2, r2⟩
        have start : ∃ t, AS T2 n L V x.toNat K [] t a K := by
          obtain ⟨⟨c, d, tr⟩, tt⟩ := r2
          have hkl' := HKL.out
          refine ⟨_, ⟨tr, fun f hf => by simp at hf, HA.out.symm, by simp [preC], ?_⟩⟩
          have := tr.nodes.length_eq
          rw [← this]; simp only [up1, List.length_map]; have := HM.out; omega
        obtain ⟨t0, st0⟩ := start
        have I2 := Lib.hid i2
        have M2 := Lib.hid m2
        have S0 := Lib.hid st0
        clear i2 m2 r2 st0 HL hkl hlen
        go_wp2_with fail
        go_loopg [2, 8] t0.nodes.length (fun gk u v wr => ∃ (c : List Fr) (t : Tr) (y k : Nat) (T2 : Tb), u = .int .i64 k ∧ v = .int .i32 y ∧ Hid (t.nodes.length = gk) ∧ Hid (In wr p g n cap T2 L V) ∧ Hid (Mod g (g + 1) w wr) ∧ Hid (AS T2 n L V x.toNat K c t y k))
        case atStart => exact ⟨[], t0, a, K, T2, rfl, rfl, rfl, I2, M2, S0⟩
        case round =>
          obtain ⟨c, t, y, k, T3, rfl, rfl, hgk, HI, HM3, HS⟩ := hrel
          clear I2 M2 S0
          cases t with
          | nil => have := HS.out.lt; simp [Tr.nodes] at this
          | node l y' r =>
            obtain rfl : y' = y := HS.out.root
            have hin := HI.out
            have has := HS.out
            have hbd := Rt.bd hin HX.out
            have hy0 : y' ≠ 0 := has.tr.ne (in_L has.tr (.inr (by simp [Tr.nodes])))
            have hyn : y' ≤ n := hbd _ (in_L has.tr (.inr (by simp [Tr.nodes])))
            have hkd := kid_le has.tr hbd (t := .node l y' r) hy0
            have PC := Lib.hid (push_any hin.hob hin.tab npg y' hyn hn hkd)
            obtain ⟨l', r', as2, tt2⟩ := as_push has
            have AS2 := Lib.hid as2
            have TT2 := Lib.hid tt2
            have GK : Hid (l'.nodes.length < gk ∧ r'.nodes.length < gk) := by
              have h1 := hgk.out
              obtain ⟨q1, _⟩ := push_rep has.tr
              have h2 := (plug_nodes c (.node l y' r)).length_eq
              have h3 := (plug_nodes c (.node l' y' r')).length_eq
              have h4 := has.tr.nodes.length_eq
              have h5 := as2.tr.nodes.length_eq
              simp only [Tr.nodes, List.length_append, List.length_cons] at h1 h2 h3
              exact ⟨by omega, by omega⟩
            have kb : k ≤ 65536 := by have := has.pos; omega
            clear hin has hbd hkd as2 tt2 hgk
            go_wp2_with fail
            refine PC.out.mono ?_
            rintro e w4 ⟨rfl, t4, m4⟩
            have i4 := In.pushed HI.out HX.out HS.out.tr m4 t4
            have I4 := Lib.hid i4
            have M4 : Hid (Mod g (g + 1) w w4) := HM3.out.trans m4
            have as2 := AS2.out
            have hbd := Rt.bd i4 HX.out
            have hrep := (plug_rep.1 as2.tr.1).1
            have hl0 : (push T3 y' y').k0 = l'.root := hrep.2.2.2.2.1.link
            have hl1 : (push T3 y' y').k1 = r'.root := hrep.2.2.2.2.2.link
            obtain ⟨kl, hkl⟩ : ∃ z, l'.root = z := ⟨_, rfl⟩
            obtain ⟨kr, hkr⟩ : ∃ z, r'.root = z := ⟨_, rfl⟩
            rw [hkl] at hl0
            rw [hkr] at hl1
            have hkd := kid_le as2.tr hbd (t := .node l' y' r') hy0
            have hln : kl ≤ n := by rw [← hl0]; exact hkd.1
            have hrn : kr ≤ n := by rw [← hl1]; exact hkd.2
            have ck0 : w4.cell? ⟨g, y' * 9, none⟩ = some (.int .i32 kl) := RTab.ck0 i4.tab hyn hl0
            have ck1 : w4.cell? ⟨g, y' * 9 + 1, none⟩ = some (.int .i32 kr) := RTab.ck1 i4.tab hyn hl1
            obtain ⟨sz, hsz⟩ : ∃ s, l'.nodes.length = s := ⟨_, rfl⟩
            have hss : (push T3 y' kl).size = sz := by rw [← hsz, ← hl0]; exact size_root hrep.2.2.2.2.1 i4.fok.2.2
            have cs : w4.cell? ⟨g, kl * 9 + 3, none⟩ = some (.int .i32 sz) := RTab.csize i4.tab hln hss
            have szb : sz ≤ 65536 := by
              rw [← hsz]
              have h1 := as2.tr.nodes.length_eq
              have h2 := (plug_nodes c (.node l' y' r')).length_eq
              have h3 : (up1 (lst L x.toNat)).length ≤ n := by
                have := i4.fok.part.len_le (i4.fok.part.lst HX.out).1
                simpa [up1] using this
              simp only [Tr.nodes, List.length_append, List.length_cons] at h2
              omega
            have co := i4.hob.2
            have HSZ := Lib.hid hsz
            have HKL2 := Lib.hid hkl
            have HKR := Lib.hid hkr
            clear t4 m4 i4 as2 hbd hrep hl0 hl1 hkl hkr hkd hsz hss PC HS HI HM3
            by_cases q1 : k < sz
            · have q1' : (k : Int) < sz := by omega
              have NX : Hid (AS (push T3 y') n L V x.toNat K (⟨false, y', r'⟩ :: c) l' kl k) := by
                have := as_left AS2.out TT2.out (by rw [HSZ.out]; exact q1); rw [HKL2.out] at this; exact this
              go_wp2_with fail
              go_roundg l'.nodes.length
              case measure => exact GK.out.1
              case rel => exact ⟨_, l', kl, k, _, rfl, rfl, rfl, I4, M4, NX⟩
            · by_cases q2 : sz < k
              · have q2' : (sz : Int) < k := by omega
                have q1' : ¬ (k : Int) < sz := by omega
                obtain ⟨k', hk'⟩ : ∃ k', k - (sz + 1) = k' := ⟨_, rfl⟩
                have hk2 : (k : Int) - (sz + 1) = k' := by omega
                have HK2 := Lib.hid hk2
                have NX : Hid (AS (push T3 y') n L V x.toNat K (⟨true, y', l'⟩ :: c) r' kr k') := by
                  have := as_right AS2.out TT2.out (by rw [HSZ.out]; exact q2); rw [HKR.out, HSZ.out, hk'] at this; exact this
                clear hk' hk2
                go_wp2_with fail
                rw [HK2.out]
                go_roundg r'.nodes.length
                case measure => exact GK.out.2
                case rel => exact ⟨_, r', kr, k', _, rfl, rfl, rfl, I4, M4, NX⟩
              · obtain rfl : k = sz := by omega
                obtain ⟨z, hz⟩ : ∃ z, (lst L x.toNat).getD K 0 = z := ⟨_, rfl⟩
                have hit := as_hit AS2.out TT2.out HSZ.out.symm
                rw [hz] at hit
                have hzn : z < n := by omega
                have HS2 := Lib.hid (splayF I4.out z hzn y' hit.1.symm)
                have HIT : Hid ((y' : Int) - 1 = z) := by show _ = _; omega
                have HZ := Lib.hid hz
                clear hit hz
                go_wp2_with fail
                refine HS2.out.mono ?_
                rintro e w5 ⟨rfl, T5, i5, m5, r5, f5⟩
                have I5 := Lib.hid i5
                have M5 : Hid (Mod g (g + 1) w w5) := M4.out.trans m5
                clear i5 m5 r5 f5 HS2
                go_wp2
                go_ret2
                rw [HV.out.1, HV.out.2, HZ.out, ← HIT.out]
                exact I5.out.sp LL.out.1 LL.out.2.1 LL.out.2.2 M5.out
      · have hv : atV L V x k = 0 ∧ atB L V x k = false := by
          unfold atV atB
          rw [hx, decide_eq_false (show ¬ (0 ≤ k ∧ k < (lst L x.toNat).length) by omega)]; exact ⟨rfl, rfl⟩
        have HV := Lib.hid hv
        obtain ⟨m, hm⟩ : ∃ m, (lst L x.toNat).length = m := ⟨_, rfl⟩
        rw [hm] at HL hkl hlen
        have hge : (m : Int) ≤ k := by omega
        clear hI e1 e2 hv hx x0 x1 hxn ha l1 l2 hcap hk64 hp hlx hm hk hkl hlen
        go_enter Try.func16, Try.ntmps16
        go_wp2_with fail
        refine HC.out.mono ?_
        rintro e w' ⟨rfl, rfl⟩
        go_wp2_with fail
        refine HL.out.mono ?_
        rintro e w2 ⟨rfl, T2, i2, m2, r2⟩
        have I2 := Lib.hid i2
        have M2 := Lib.hid m2
        clear i2 m2 r2 HL
        go_wp2
        go_ret2
        rw [HV.out.1, HV.out.2]
        exact I2.out.sp LL.out.1 LL.out.2.1 LL.out.2.2 M2.out
  · have hx' : nodeB V x = false := by simpa using hx
    have hv : atV L V x k = 0 ∧ atB L V x k = false := by unfold atV atB; rw [hx']; exact ⟨rfl, rfl⟩
    have HV := Lib.hid hv
    have e2 : chkE V x = 3 := by unfold chkE; rw [hx']; rfl
    rw [e2] at HC
    clear hI e2 hv hx hx' l1 l2 hcap
    go_enter Try.func16, Try.ntmps16
    go_wp2_with fail
    refine HC.out.mono ?_
    rintro e w' ⟨rfl, rfl⟩
    go_wp2
    go_ret2
    rw [HV.out.1, HV.out.2]
    exact FIN.out _ _
end Go.Proofs.Ytblopfgnhokocaa
